/- A drawn region by an invariant, where an operation's slot is read before it is written: at the start each slot holds its own value. Nothing here names a function of the program. -/
import Derived.Test.YtfjdlbilnoojkaaInvRz
namespace Go.Proofs.Ytfjdlbilnoojkaa
open Go.RowKit
section
variable {P : Program} {ops : Array Oper} {Q : Exit → Act → World → Prop}
/-- **A drawn region by an invariant** 'G' on what has come up (a list of flags), on the values of the operations' temporaries and on the world. -/
theorem wp_region_invO0 {id : Nat} {a : Act} {w : World} (n : Nat) (ds : List (Option Nat)) (G : List Bool → List Value → World → Prop) (hm : P.follows .mixedOrders = true)
    (hn : ops.size = n) (hd : ops.toList.map (·.dst) = ds) (hnd : ds.Pairwise Apart)
    (hlow : ((List.range n).all fun i => ((ops[i]?).map fun o => o.after.all fun e => !Region.binds .any e || decide (e.on < i)).getD true) = true)
    (h0 : G (List.replicate n false) (ds.map (ownAt a)) w.drew)
    (hstep : ∀ i, i < n → ∀ o, ops[i]? = some o → ∀ l xs w, l.length = n → xs.length = n → G l xs w → l.getD i false = false → (∀ j, (o.after.any fun e => Region.binds .any e && e.on == j) = true → l.getD j false = true) →
      ∀ K : Act → World → Prop, Shut (∀ v w', G (l.set i true) (xs.set i v) w' → K ((putAll a ds xs).put o.dst v) w') →
        if Region.wanted o (yielded ops (putAll a ds xs).tmps) = true then Oper.wp P o (putAll a ds xs) w K Q else K ((putAll a ds xs).put o.dst undef) w)
    (hfin : ∀ xs w, xs.length = n → G (List.replicate n true) xs w → Q .normal (putAll a ds xs) w) : (Code.region id ops true).wp P Q a w := by
  have hdl : ds.length = n := by
    have := congrArg List.length hd
    simpa [hn] using this.symm
  refine wp_region_any hm ?_
  have key := wpAny_inv (P := P) (ops := ops) (Q := Q) (md := .any) (fun l a' w' => ∃ xs, xs.length = n ∧ a' = putAll a ds xs ∧ G l xs w') ?_ ?_ ops.size (List.replicate ops.size false) a w.drew (by simp) (by
      have : toGo (List.replicate ops.size false) ≤ (List.replicate ops.size false).length := List.countP_le_length
      simpa using this) ⟨ds.map (ownAt a), by simp [hdl], (putAll_own ds a).symm, by rw [hn]; exact h0⟩
  · simpa using key
  · rintro i o l a' w' ho hl ⟨xs, hx, rfl, hG⟩ hi hdeps
    have hin : i < n := by rw [← hn]; exact (Array.getElem?_eq_some_iff.1 ho).1
    have hde : ds[i]? = some o.dst := by
      rw [← hd, List.getElem?_map, Array.getElem?_toList, ho]; rfl
    refine wpOp_step ho fun K' hK => hstep i hin o ho l xs w' (by rw [hl, hn]) hx hG (by rw [List.getD_eq_getElem?_getD, hi]; rfl) (fun j hj => ?_) K' (fun v w'' hg => hK _ _ ⟨xs.set i v, by simp [hx], putAll_set ds xs a i _ v hnd (by rw [hdl, hx]) hde, hg⟩)
    obtain ⟨e, he, hb⟩ := Array.any_eq_true'.1 hj
    simp only [Bool.and_eq_true, beq_iff_eq] at hb
    obtain ⟨hb, rfl⟩ := hb
    exact hdeps e he hb
  · rintro l a' w' hl hr ⟨xs, hx, rfl, hG⟩
    refine hfin xs w' hx ?_
    have hall : ∀ i, i < n → l[i]? = some true := by
      intro i
      induction i using Nat.strongRecOn with
      | ind i ih =>
        intro hi
        have hil : i < l.length := by omega
        rcases hb : l[i] with _ | _
        · exfalso
          have hio : i < ops.size := by omega
          have : i ∈ Region.ready .any ops l.toArray := mem_ready.2 ⟨by simp [Array.getD, hil, hb], ops[i], Array.getElem?_eq_getElem hio, fun e he hbd => by
            have h1 := (List.all_eq_true.1 hlow) i (List.mem_range.2 hi)
            rw [Array.getElem?_eq_getElem hio] at h1
            have h2 := Array.all_eq_true_iff_forall_mem.1 (show (ops[i].after.all fun e => !Region.binds .any e || decide (e.on < i)) = true from h1) e he
            have h2 : e.on < i := by simpa [hbd] using h2
            have h3 := ih e.on h2 (by omega)
            obtain ⟨h4, h5⟩ := List.getElem?_eq_some_iff.1 h3
            simp [Array.getD, h4, h5]⟩
          rw [hr] at this
          cases this
        · rw [List.getElem?_eq_getElem hil, hb]
    have : l = List.replicate n true := by
      refine List.ext_getElem? fun i => ?_
      by_cases hi : i < n
      · rw [hall i hi]; simp [hi]
      · rw [List.getElem?_eq_none (by omega), List.getElem?_eq_none (by simp; omega)]
    rw [← this]
    exact hG
/-- .. at a state that is written out. -/
theorem wp_region_invO {id : Nat} {ls : List Value} {df : List Deferred} {w : World} (n : Nat) (ds : List (Option Nat)) (G : List Bool → List Value → World → Prop) (hm : P.follows .mixedOrders = true)
    (hn : ops.size = n) (hd : ops.toList.map (·.dst) = ds) (hnd : ds.Pairwise Apart)
    (hlow : ((List.range n).all fun i => ((ops[i]?).map fun o => o.after.all fun e => !Region.binds .any e || decide (e.on < i)).getD true) = true)
    (h0 : G (List.replicate n false) (ds.map (ownAt ⟨ls.toArray, df⟩)) w.drew)
    (hstep : ∀ i, i < n → ∀ o, ops[i]? = some o → ∀ l xs w, l.length = n → xs.length = n → G l xs w → l.getD i false = false → (∀ j, (o.after.any fun e => Region.binds .any e && e.on == j) = true → l.getD j false = true) →
      ∀ K : Act → World → Prop, Shut (∀ v w', G (l.set i true) (xs.set i v) w' → K ⟨(setAll ls ds (xs.set i v)).toArray, df⟩ w') →
        if Region.wanted o (yielded ops (setAll ls ds xs).toArray) = true then Oper.wp P o ⟨(setAll ls ds xs).toArray, df⟩ w K Q else K ⟨(setAll ls ds (xs.set i undef)).toArray, df⟩ w)
    (hfin : ∀ xs w, xs.length = n → G (List.replicate n true) xs w → Q .normal ⟨(setAll ls ds xs).toArray, df⟩ w) : (Code.region id ops true).wp P Q ⟨ls.toArray, df⟩ w := by
  have hdl : ds.length = n := by
    have := congrArg List.length hd
    simpa [hn] using this.symm
  refine wp_region_invO0 n ds G hm hn hd hnd hlow h0 (fun i hi o ho l xs w' hl hx hG hb hdep K hK => ?_) (fun xs w' hx hG => by rw [putAll_list]; exact hfin xs w' hx hG)
  have hde : ds[i]? = some o.dst := by
    rw [← hd, List.getElem?_map, Array.getElem?_toList, ho]; rfl
  have hp : ∀ v, (putAll ⟨ls.toArray, df⟩ ds xs).put o.dst v = ⟨(setAll ls ds (xs.set i v)).toArray, df⟩ := fun v => by
    rw [putAll_set ds xs _ i _ v hnd (by rw [hdl, hx]) hde, putAll_list]
  have := hstep i hi o ho l xs w' hl hx hG hb hdep K (fun v w'' hg => by rw [← hp]; exact hK v w'' hg)
  rw [hp, putAll_list]
  exact this
end
end Go.Proofs.Ytfjdlbilnoojkaa
