/- A region that draws its order of evaluation, by an invariant: each operation is walked ONCE, whatever has come up before it. Nothing here names a function of the program. -/
import Derived.WalkKit
import Derived.Deep.RegionHeld3
namespace Go.Proofs.Ytfjdlbilnoojkaa
open Go.RowKit

/-- The temporaries of a list hold the values of another. -/
def putAll (a : Act) : List (Option Nat) → List Value → Act
  | d :: ds, x :: xs => putAll (a.put d x) ds xs
  | _, _ => a
theorem put_twice (a : Act) (d : Option Nat) (x y : Value) : (a.put d x).put d y = a.put d y := by cases d <;> simp [Act.put]
def Apart (x y : Option Nat) : Prop := x = none ∨ x ≠ y
instance (x y : Option Nat) : Decidable (Apart x y) := inferInstanceAs (Decidable (_ ∨ _))
theorem Apart.comm {x y : Option Nat} (h : Apart x y) (a : Act) (v u : Value) : (a.put x v).put y u = (a.put y u).put x v :=
  Act.put_comm a v u fun d hx hy => h.elim (fun h => by rw [h] at hx; cases hx) fun h => h (hx.trans hy.symm)
theorem putAll_put (a : Act) (e : Option Nat) (v : Value) : ∀ (ds : List (Option Nat)) (xs : List Value), (∀ d ∈ ds, Apart e d) → (putAll a ds xs).put e v = putAll (a.put e v) ds xs
  | [], xs, _ => by simp [putAll]
  | d :: ds, [], _ => rfl
  | d :: ds, x :: xs, h => by
    rw [putAll, putAll_put _ e v ds xs (fun k hk => h k (List.mem_cons_of_mem _ hk)), putAll, (h d List.mem_cons_self).comm a v x]
theorem putAll_set : ∀ (ds : List (Option Nat)) (xs : List Value) (a : Act) (i : Nat) (e : Option Nat) (v : Value), ds.Pairwise Apart → ds.length = xs.length → ds[i]? = some e → (putAll a ds xs).put e v = putAll a ds (xs.set i v)
  | [], _, _, i, e, v, _, _, h => by simp at h
  | d :: ds, [], _, _, _, _, _, h, _ => by simp at h
  | d :: ds, x :: xs, a, 0, e, v, hn, hl, h => by
    have : d = e := by simpa using h
    subst this
    rw [putAll, putAll_put _ d v ds xs (List.pairwise_cons.1 hn).1, put_twice, List.set_cons_zero, putAll]
  | d :: ds, x :: xs, a, i + 1, e, v, hn, hl, h => by
    rw [putAll, List.set_cons_succ, putAll]
    exact putAll_set ds xs _ i e v (List.pairwise_cons.1 hn).2 (by simpa using hl) (by simpa using h)
def ownAt (a : Act) (d : Option Nat) : Value := d.elim undef fun d => a.tmps.getD d undef
theorem put_own (a : Act) : ∀ d : Option Nat, a.put d (ownAt a d) = a
  | none => rfl
  | some d => by
    cases a with
    | mk t df =>
      show ({ tmps := t.setIfInBounds d (t.getD d undef), defers := df } : Act) = _
      congr 1
      refine Array.ext (by simp) fun i h1 h2 => ?_
      by_cases h : d = i
      · subst h; simp [Array.getD, h2]
      · rw [Array.getElem_setIfInBounds_ne h2 h]
theorem putAll_own : ∀ (ds : List (Option Nat)) (a : Act), putAll a ds (ds.map (ownAt a)) = a
  | [], a => rfl
  | d :: ds, a => by
    rw [List.map_cons, putAll, put_own]
    exact putAll_own ds a

/-- The same on the list of the temporaries. -/
def setAll : List Value → List (Option Nat) → List Value → List Value
  | l, some d :: ds, x :: xs => setAll (l.set d x) ds xs
  | l, none :: ds, _ :: xs => setAll l ds xs
  | l, _, _ => l
theorem putAll_list (df : List Deferred) : ∀ (ds : List (Option Nat)) (xs : List Value) (l : List Value), putAll ⟨l.toArray, df⟩ ds xs = ⟨(setAll l ds xs).toArray, df⟩
  | [], xs, l => by cases xs <;> simp [putAll, setAll]
  | some d :: ds, [], l => rfl
  | none :: ds, [], l => rfl
  | some d :: ds, x :: xs, l => by
    rw [putAll, setAll, ← putAll_list df ds xs (l.set d x)]
    congr 1
    simp [Act.put]
  | none :: ds, x :: xs, l => by rw [putAll, setAll, ← putAll_list df ds xs l]; rfl

section
variable {P : Program} {ops : Array Oper} {Q : Exit → Act → World → Prop} {md : Region.Mode}
/-- how many have not come up yet -/
def toGo (l : List Bool) : Nat := l.countP (! ·)
theorem toGo_set : ∀ (l : List Bool) (i : Nat), l[i]? = some false → toGo (l.set i true) + 1 = toGo l
  | [], i, h => by simp at h
  | b :: l, 0, h => by
    have : b = false := by simpa using h
    subst this
    simp [toGo]
  | b :: l, i + 1, h => by
    have := toGo_set l i (by simpa using h)
    simp only [toGo, List.set_cons_succ, List.countP_cons] at this ⊢
    omega
theorem toGo_none (l : List Bool) (h : toGo l = 0) (i : Nat) : l[i]? ≠ some false := fun hi => by
  have := toGo_set l i hi
  omega
theorem wpAny_inv (I : List Bool → Act → World → Prop)
    (hstep : ∀ i o l a w, ops[i]? = some o → l.length = ops.size → I l a w → l[i]? = some false → (∀ e ∈ o.after, Region.binds md e = true → l.getD e.on false = true) → wpOp P ops Q i (I (l.set i true)) a w)
    (hfin : ∀ l a w, l.length = ops.size → Region.ready md ops l.toArray = [] → I l a w → Q .normal a w) :
    ∀ (fuel : Nat) (l : List Bool) (a : Act) (w : World), l.length = ops.size → toGo l ≤ fuel → I l a w → wpAny P md ops Q fuel l.toArray a w := by
  intro fuel
  induction fuel with
  | zero =>
    intro l a w hl ht hI
    have hr : Region.ready md ops l.toArray = [] := by
      refine List.eq_nil_iff_forall_not_mem.2 fun i hi => ?_
      obtain ⟨h1, o, ho, _⟩ := mem_ready.1 hi
      have hi : i < l.length := by rw [hl]; exact (Array.getElem?_eq_some_iff.1 ho).1
      refine toGo_none l (by omega) i ?_
      rw [List.getElem?_eq_getElem hi]
      simpa [Array.getD, hi] using h1
    exact ⟨hr, hfin l a w hl hr hI⟩
  | succ fuel ih =>
    intro l a w hl ht hI
    refine ⟨fun hr => hfin l a w hl hr hI, fun i hi => ?_⟩
    obtain ⟨h1, o, ho, h2⟩ := mem_ready.1 hi
    have hi : i < l.length := by rw [hl]; exact (Array.getElem?_eq_some_iff.1 ho).1
    have hb : l[i]? = some false := by
      rw [List.getElem?_eq_getElem hi]
      simpa [Array.getD, hi] using h1
    refine wpOp_mono (fun a' w' h => ?_) (hstep i o l a w ho hl hI hb (fun e he hbd => by
      have := h2 e he hbd
      by_cases hlt : e.on < l.length
      · simpa [Array.getD, List.getD, hlt] using this
      · simp [Array.getD, hlt] at this))
    have := ih (l.set i true) a' w' (by simp [hl]) (by have := toGo_set l i hb; omega) h
    rwa [show l.toArray.setIfInBounds i true = (l.set i true).toArray from by simp]

/-- **A drawn region by an invariant** 'G' on what has come up (a list of flags), on the values of the operations' temporaries and on the world. -/
theorem wp_region_inv {id : Nat} {a : Act} {w : World} (n : Nat) (ds : List (Option Nat)) (G : List Bool → List Value → World → Prop) (hm : P.follows .mixedOrders = true)
    (hn : ops.size = n) (hd : ops.toList.map (·.dst) = ds) (hnd : ds.Pairwise Apart)
    (hlow : ((List.range n).all fun i => ((ops[i]?).map fun o => o.after.all fun e => !Region.binds .any e || decide (e.on < i)).getD true) = true)
    (h0 : ∀ xs, xs.length = n → G (List.replicate n false) xs w.drew)
    (hstep : ∀ i, i < n → ∀ o, ops[i]? = some o → ∀ l xs w, l.length = n → xs.length = n → G l xs w → l.getD i false = false → (∀ j, (o.after.any fun e => Region.binds .any e && e.on == j) = true → l.getD j false = true) →
      ∀ K : Act → World → Prop, Shut (∀ v w', G (l.set i true) (xs.set i v) w' → K ((putAll a ds xs).put o.dst v) w') →
        if Region.wanted o (yielded ops (putAll a ds xs).tmps) = true then Oper.wp P o (putAll a ds xs) w K Q else K ((putAll a ds xs).put o.dst undef) w)
    (hfin : ∀ xs w, xs.length = n → G (List.replicate n true) xs w → Q .normal (putAll a ds xs) w) : (Code.region id ops true).wp P Q a w := by
  have hdl : ds.length = n := by
    have := congrArg List.length hd
    simpa [hn] using this.symm
  refine wp_region_any hm ?_
  have key := wpAny_inv (P := P) (ops := ops) (Q := Q) (md := .any) (fun l a' w' => ∃ xs, xs.length = n ∧ a' = putAll a ds xs ∧ G l xs w') ?_ ?_ ops.size (List.replicate ops.size false) a w.drew (by simp) (by
      have : toGo (List.replicate ops.size false) ≤ (List.replicate ops.size false).length := List.countP_le_length
      simpa using this) ⟨ds.map (ownAt a), by simp [hdl], (putAll_own ds a).symm, by rw [hn]; exact h0 _ (by simp [hdl])⟩
  · simpa using key
  · rintro i o l a' w' ho hl ⟨xs, hx, rfl, hG⟩ hi hdeps
    have hin : i < n := by rw [← hn]; exact (Array.getElem?_eq_some_iff.1 ho).1
    have hde : ds[i]? = some o.dst := by
      rw [← hd, List.getElem?_map, Array.getElem?_toList, ho]; rfl
    refine wpOp_step ho fun K' hK => hstep i hin o ho l xs w' (by rw [hl, hn]) hx hG (by rw [List.getD_eq_getElem?_getD, hi]; rfl) (fun j hj => ?_) K' (fun v w'' hg => hK _ _ ⟨xs.set i v, by simp [hx], putAll_set ds xs a i _ v hnd (by rw [hdl, hx]) hde, hg⟩)
    obtain ⟨e, he, hb⟩ := Array.any_eq_true'.1 hj
    simp only [Bool.and_eq_true, beq_iff_eq] at hb
    obtain ⟨hb, rfl⟩ := hb
    exact hdeps e he hb
  · rintro l a' w' hl hr ⟨xs, hx, rfl, hG⟩
    refine hfin xs w' hx ?_
    have hall : ∀ i, i < n → l[i]? = some true := by
      intro i
      induction i using Nat.strongRecOn with
      | ind i ih =>
        intro hi
        have hil : i < l.length := by omega
        rcases hb : l[i] with _ | _
        · exfalso
          have hio : i < ops.size := by omega
          have : i ∈ Region.ready .any ops l.toArray := mem_ready.2 ⟨by simp [Array.getD, hil, hb], ops[i], Array.getElem?_eq_getElem hio, fun e he hbd => by
            have h1 := (List.all_eq_true.1 hlow) i (List.mem_range.2 hi)
            rw [Array.getElem?_eq_getElem hio] at h1
            have h2 := Array.all_eq_true_iff_forall_mem.1 (show (ops[i].after.all fun e => !Region.binds .any e || decide (e.on < i)) = true from h1) e he
            have h2 : e.on < i := by simpa [hbd] using h2
            have h3 := ih e.on h2 (by omega)
            obtain ⟨h4, h5⟩ := List.getElem?_eq_some_iff.1 h3
            simp [Array.getD, h4, h5]⟩
          rw [hr] at this
          cases this
        · rw [List.getElem?_eq_getElem hil, hb]
    have : l = List.replicate n true := by
      refine List.ext_getElem? fun i => ?_
      by_cases hi : i < n
      · rw [hall i hi]; simp [hi]
      · rw [List.getElem?_eq_none (by omega), List.getElem?_eq_none (by simp; omega)]
    rw [← this]
    exact hG
/-- .. at a state that is written out. -/
theorem wp_region_invL {id : Nat} {ls : List Value} {df : List Deferred} {w : World} (n : Nat) (ds : List (Option Nat)) (G : List Bool → List Value → World → Prop) (hm : P.follows .mixedOrders = true)
    (hn : ops.size = n) (hd : ops.toList.map (·.dst) = ds) (hnd : ds.Pairwise Apart)
    (hlow : ((List.range n).all fun i => ((ops[i]?).map fun o => o.after.all fun e => !Region.binds .any e || decide (e.on < i)).getD true) = true)
    (h0 : ∀ xs, xs.length = n → G (List.replicate n false) xs w.drew)
    (hstep : ∀ i, i < n → ∀ o, ops[i]? = some o → ∀ l xs w, l.length = n → xs.length = n → G l xs w → l.getD i false = false → (∀ j, (o.after.any fun e => Region.binds .any e && e.on == j) = true → l.getD j false = true) →
      ∀ K : Act → World → Prop, Shut (∀ v w', G (l.set i true) (xs.set i v) w' → K ⟨(setAll ls ds (xs.set i v)).toArray, df⟩ w') →
        if Region.wanted o (yielded ops (setAll ls ds xs).toArray) = true then Oper.wp P o ⟨(setAll ls ds xs).toArray, df⟩ w K Q else K ⟨(setAll ls ds (xs.set i undef)).toArray, df⟩ w)
    (hfin : ∀ xs w, xs.length = n → G (List.replicate n true) xs w → Q .normal ⟨(setAll ls ds xs).toArray, df⟩ w) : (Code.region id ops true).wp P Q ⟨ls.toArray, df⟩ w := by
  have hdl : ds.length = n := by
    have := congrArg List.length hd
    simpa [hn] using this.symm
  refine wp_region_inv n ds G hm hn hd hnd hlow h0 (fun i hi o ho l xs w' hl hx hG hb hdep K hK => ?_) (fun xs w' hx hG => by rw [putAll_list]; exact hfin xs w' hx hG)
  have hde : ds[i]? = some o.dst := by
    rw [← hd, List.getElem?_map, Array.getElem?_toList, ho]; rfl
  have hp : ∀ v, (putAll ⟨ls.toArray, df⟩ ds xs).put o.dst v = ⟨(setAll ls ds (xs.set i v)).toArray, df⟩ := fun v => by
    rw [putAll_set ds xs _ i _ v hnd (by rw [hdl, hx]) hde, putAll_list]
  have := hstep i hi o ho l xs w' hl hx hG hb hdep K (fun v w'' hg => by rw [← hp]; exact hK v w'' hg)
  rw [hp, putAll_list]
  exact this
end
end Go.Proofs.Ytfjdlbilnoojkaa
