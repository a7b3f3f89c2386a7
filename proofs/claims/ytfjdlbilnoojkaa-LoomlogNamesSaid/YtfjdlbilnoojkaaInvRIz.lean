/- A region that draws its order of evaluation INSIDE A FENCE (also in a round), by an invariant: each operation is walked once. No guards. Nothing here names a function of the program. -/
import Derived.OrdersIn
import Derived.OwnWalkIn
import Derived.Maps.AppendAt
import Derived.Test.YtfjdlbilnoojkaaInvRz
namespace Go.Proofs.Ytfjdlbilnoojkaa
open Go.RowKit

section
variable {F : Fence} {m : Nat} {P : Program} {ops : Array Oper} {Q : Exit → Act → World → Prop} {md : Region.Mode}
theorem wpAnyIn_inv (I : List Bool → Act → World → Prop)
    (hstep : ∀ i o l a w, ops[i]? = some o → l.length = ops.size → I l a w → l[i]? = some false → (∀ e ∈ o.after, Region.binds md e = true → l.getD e.on false = true) → wpOpIn F m P ops Q i (I (l.set i true)) a w)
    (hfin : ∀ l a w, l.length = ops.size → Region.ready md ops l.toArray = [] → I l a w → Q .normal a w) :
    ∀ (fuel : Nat) (l : List Bool) (a : Act) (w : World), l.length = ops.size → toGo l ≤ fuel → I l a w → wpAnyIn F m P md ops Q fuel l.toArray a w := by
  intro fuel
  induction fuel with
  | zero =>
    intro l a w hl ht hI
    have hr : Region.ready md ops l.toArray = [] := by
      refine List.eq_nil_iff_forall_not_mem.2 fun i hi => ?_
      obtain ⟨h1, o, ho, _⟩ := mem_ready.1 hi
      have hi : i < l.length := by rw [hl]; exact (Array.getElem?_eq_some_iff.1 ho).1
      refine toGo_none l (by omega) i ?_
      rw [List.getElem?_eq_getElem hi]
      simpa [Array.getD, hi] using h1
    exact ⟨hr, hfin l a w hl hr hI⟩
  | succ fuel ih =>
    intro l a w hl ht hI
    refine ⟨fun hr => hfin l a w hl hr hI, fun i hi => ?_⟩
    obtain ⟨h1, o, ho, h2⟩ := mem_ready.1 hi
    have hi : i < l.length := by rw [hl]; exact (Array.getElem?_eq_some_iff.1 ho).1
    have hb : l[i]? = some false := by
      rw [List.getElem?_eq_getElem hi]
      simpa [Array.getD, hi] using h1
    refine wpOpIn_mono (fun a' w' h => ?_) (hstep i o l a w ho hl hI hb (fun e he hbd => by
      have := h2 e he hbd
      by_cases hlt : e.on < l.length
      · simpa [Array.getD, List.getD, hlt] using this
      · simp [Array.getD, hlt] at this))
    have := ih (l.set i true) a' w' (by simp [hl]) (by have := toGo_set l i hb; omega) h
    rwa [show l.toArray.setIfInBounds i true = (l.set i true).toArray from by simp]
theorem wpIn_region_invL {id : Nat} {ls : List Value} {df : List Deferred} {w : World} (n : Nat) (ds : List (Option Nat)) (G : List Bool → List Value → World → Prop) (hm : P.follows .mixedOrders = true)
    (hn : ops.size = n) (hd : ops.toList.map (·.dst) = ds) (hnd : ds.Pairwise Apart) (hgd : (ops.all fun o => o.guard.isNone) = true)
    (hlow : ((List.range n).all fun i => ((ops[i]?).map fun o => o.after.all fun e => !Region.binds .any e || decide (e.on < i)).getD true) = true)
    (h0 : ∀ xs, xs.length = n → G (List.replicate n false) xs w.drew)
    (hstep : ∀ i, i < n → ∀ o, ops[i]? = some o → ∀ l xs w, l.length = n → xs.length = n → G l xs w → l.getD i false = false → (∀ j, (o.after.any fun e => Region.binds .any e && e.on == j) = true → l.getD j false = true) →
      ∀ K : Act → World → Prop, Shut (∀ v w', G (l.set i true) (xs.set i v) w' → K ⟨(setAll ls ds (xs.set i v)).toArray, df⟩ w') → Oper.wpIn F m P o ⟨(setAll ls ds xs).toArray, df⟩ w K Q)
    (hfin : ∀ xs w, xs.length = n → G (List.replicate n true) xs w → Q .normal ⟨(setAll ls ds xs).toArray, df⟩ w) : (Code.region id ops true).wpIn F m P Q ⟨ls.toArray, df⟩ w := by
  have hdl : ds.length = n := by
    have := congrArg List.length hd
    simpa [hn] using this.symm
  refine wpIn_region_any hm ?_
  have key := wpAnyIn_inv (F := F) (m := m) (P := P) (ops := ops) (Q := Q) (md := .any) (fun l a' w' => ∃ xs, xs.length = n ∧ a' = ⟨(setAll ls ds xs).toArray, df⟩ ∧ G l xs w') ?_ ?_ ops.size (List.replicate ops.size false) ⟨ls.toArray, df⟩ w.drew (by simp) (by
      have : toGo (List.replicate ops.size false) ≤ (List.replicate ops.size false).length := List.countP_le_length
      simpa using this) ⟨ds.map (ownAt ⟨ls.toArray, df⟩), by simp [hdl], by rw [← putAll_list]; exact (putAll_own ds _).symm, by rw [hn]; exact h0 _ (by simp [hdl])⟩
  · simpa using key
  · rintro i o l a' w' ho hl ⟨xs, hx, rfl, hG⟩ hi hdeps
    have hin : i < n := by rw [← hn]; exact (Array.getElem?_eq_some_iff.1 ho).1
    have hde : ds[i]? = some o.dst := by
      rw [← hd, List.getElem?_map, Array.getElem?_toList, ho]; rfl
    have hp : ∀ v, (Act.mk (setAll ls ds xs).toArray df).put o.dst v = ⟨(setAll ls ds (xs.set i v)).toArray, df⟩ := fun v => by
      rw [← putAll_list, putAll_set ds xs _ i _ v hnd (by rw [hdl, hx]) hde, putAll_list]
    have hgo : o.guard = none := by
      have := Array.all_eq_true_iff_forall_mem.1 hgd o (Array.mem_of_getElem? ho)
      simpa using this
    have hw : Region.wanted o (yielded ops (Act.mk (setAll ls ds xs).toArray df).tmps) = true := by simp [Region.wanted, hgo]
    unfold wpOpIn
    rw [ho]
    show if Region.wanted o (yielded ops (Act.mk (setAll ls ds xs).toArray df).tmps) = true then _ else _
    rw [if_pos hw]
    exact hstep i hin o ho l xs w' (by rw [hl, hn]) hx hG (by rw [List.getD_eq_getElem?_getD, hi]; rfl) (fun j hj => by
      obtain ⟨e, he, hb⟩ := Array.any_eq_true'.1 hj
      simp only [Bool.and_eq_true, beq_iff_eq] at hb
      obtain ⟨hb, rfl⟩ := hb
      exact hdeps e he hb) _ (fun v w'' hg => ⟨xs.set i v, by simp [hx], rfl, hg⟩)
  · rintro l a' w' hl hr ⟨xs, hx, rfl, hG⟩
    refine hfin xs w' hx ?_
    have hall : ∀ i, i < n → l[i]? = some true := by
      intro i
      induction i using Nat.strongRecOn with
      | ind i ih =>
        intro hi
        have hil : i < l.length := by omega
        rcases hb : l[i] with _ | _
        · exfalso
          have hio : i < ops.size := by omega
          have : i ∈ Region.ready .any ops l.toArray := mem_ready.2 ⟨by simp [Array.getD, hil, hb], ops[i], Array.getElem?_eq_getElem hio, fun e he hbd => by
            have h1 := (List.all_eq_true.1 hlow) i (List.mem_range.2 hi)
            rw [Array.getElem?_eq_getElem hio] at h1
            have h2 := Array.all_eq_true_iff_forall_mem.1 (show (ops[i].after.all fun e => !Region.binds .any e || decide (e.on < i)) = true from h1) e he
            have h2 : e.on < i := by simpa [hbd] using h2
            have h3 := ih e.on h2 (by omega)
            obtain ⟨h4, h5⟩ := List.getElem?_eq_some_iff.1 h3
            simp [Array.getD, h4, h5]⟩
          rw [hr] at this
          cases this
        · rw [List.getElem?_eq_getElem hil, hb]
    have : l = List.replicate n true := by
      refine List.ext_getElem? fun i => ?_
      by_cases hi : i < n
      · rw [hall i hi]; simp [hi]
      · rw [List.getElem?_eq_none (by omega), List.getElem?_eq_none (by simp; omega)]
    rw [← this]
    exact hG
/-- 'out = append(out, u)' inside a fence: out is the call's own; u lies in a new block. -/
theorem stepIn_app {o : Oper} {a : Act} {K : Act → World → Prop} (w : World) (s x : Operand) (t : TypeId) (hop : o.op = Op.call { callee := Callee.builtin Builtin.append, args := #[s, x], argTypes := #[t, t] })
    (base : Nat) (e : TypeId) (i : TypeInfo) (z : Value) (bytes : Nat) (h1 : P.underlying t = some (.slice e)) (h2 : P.info? e = some i) (h3 : i.zero = some z) (h4 : i.size = 1) (h5 : i.bytes = bytes) (h6 : z.cells.size = 1)
    (v : Value) (k : Nat) (xs : List Value) (hs : a.eval s = v) (hown : w.ownsRow base e 1 v k xs) (ad : Addr) (u : Value) (hx : a.eval x = .slice (some ad) 1 1)
    (hc : ∀ j y, [u][j]? = some y → w.cell? (ad.add j) = some y) (h1c : ∀ y ∈ [u], y.oneCell' = true) (b1 : k + 1 ≤ maxLen) (b2 : (k + 1) * bytes ≤ 140737488355328) (b3 : base ≤ w.heap.size)
    (hK : ∀ v' w', w'.ownsRow base e 1 v' (k + 1) (xs ++ [u]) → w.grownBy w' v.ownBlock → K (a.put o.dst v') w') : Oper.wpIn F m P o a w K Q := by
  obtain ⟨v', w', hrun, r1, r2, r3⟩ := run_append_own (P := P) w base t o.type e i z 1 bytes h1 h2 h3 h4 h5 h6 (by decide) v k xs hown ad 1 1 [u] rfl hc h1c b1 b2 b3
  unfold Oper.wpIn
  refine ⟨?_, ?_⟩
  · simp [Oper.about, hop, resolve, Target.leads, Sem.run_pure]
  · rw [Oper.semAt_plain F _ _ (by rw [hop]; intro c hc'; cases hc')]
    simp [execOp, hop, resolve, invoke, builtin, hs, hx, hrun, Result.andThen]
    exact hK v' w' r1 r2
end
end Go.Proofs.Ytfjdlbilnoojkaa
