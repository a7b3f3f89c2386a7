/- Parts of the proof, in their order. -/
import Derived.Test.YtfjdlbilnoojkaaGdz
import Derived.Test.YtfjdlbilnoojkaaLiftz
import Derived.Test.YtfjdlbilnoojkaaProg
import Derived.KernelRfl
import Derived.Test.YtfjdlbilnoojkaaInvRz
/- Arguments of the program's own types, opened. -/
namespace Go.Proofs.Ytfjdlbilnoojkaa
open Go.RowKit Go.ChangeShapes Go.WideShapes Go.Joins

theorem Try.cellsGrid : Try.prog.cellsOf 25 = 3 := by kernel_rfl
theorem Try.cellsBool : Try.prog.cellsOf 4 = 1 := by kernel_rfl

/-- An int64 that came in is in its range. -/
theorem wf_range {n : Int} (h : (Lit.int .i64 n).wf = true) : -9223372036854775808 ≤ n ∧ n ≤ 9223372036854775807 := by
  have hmin : IntKind.i64.min = -9223372036854775808 := rfl
  have hmax : IntKind.i64.max = 9223372036854775807 := rfl
  simp only [Lit.wf, Bool.and_eq_true, decide_eq_true_eq] at h
  omega

set_option maxRecDepth 100000 in
theorem open_grid {H : Type} {enc : TypeId × Value → H} {W : World} {base : Nat} {v : Value} {d : DataW H} {p : List MemPlace}
    (hv : Value.okWide Try.prog W .any base 25 v) (h : DataW.Trod enc Try.prog W 0 (fun _ => true) true 25 v d p) :
    ∃ (g : Gd) (A : Option Addr) (n c : Nat), v = .agg #[.int .i64 g.w, .int .i64 g.h, .slice A n c] ∧ Rd W A n (g.bits.map Value.bool) ∧ n ≤ c ∧ c ≤ maxLen ∧
      (-9223372036854775808 ≤ g.w ∧ g.w ≤ 9223372036854775807) ∧ (-9223372036854775808 ≤ g.h ∧ g.h ≤ 9223372036854775807) := by
  obtain ⟨v0, v1, v2, y0, y1, y2, m, rfl, _, _, h0, h1, h2⟩ := open_agg3 Try.underlying25 (by kernel_rfl) Try.cellsGrid hv h
  obtain ⟨a, e0, _, wa⟩ := DataW.trod_int Try.underlying3 h0
  obtain ⟨b, e1, _, wb⟩ := DataW.trod_int Try.underlying3 h1
  obtain ⟨A, n, c, bs, rfl, hn, hc, hr⟩ := rd_bools Try.underlying23 Try.underlying4 Try.cellsBool h2
  simp only [List.cons.injEq, and_true] at e0 e1
  subst e0 e1
  exact ⟨⟨a, b, bs⟩, A, n, c, rfl, hr, hn, hc, wf_range wa, wf_range wb⟩

end Go.Proofs.Ytfjdlbilnoojkaa
/- grid.Check gives the error 'chk', for any grid. -/
namespace Go.Proofs.Ytfjdlbilnoojkaa
open Go.RowKit

theorem ret_i {k : IntKind} {a b : Int} (h : a = b) : Ending.returned (.int k a) = Ending.returned (.int k b) := by rw [h]

theorem check_any (W H : Int) (A : Option Addr) (n c : Nat) (w : World) :
    Calls Try.prog 50 #[.agg #[.int .i64 W, .int .i64 H, .slice A n c]] w fun e w' => e = .returned (.int .i64 (chk W H n)) ∧ Below w.heap.size w w' := by
  by_cases hb : 64 < W ∨ 64 < H
  · go_enter Try.func50, Try.ntmps50
    go_wp2
    all_goals (go_ret; exact ⟨ret_i (chk_big hb).symm, (Below.refl _ _).alloc (Nat.le_refl _) _⟩)
  by_cases hs : W < 1 ∨ H < 1
  · have hW : W ≤ 64 := by omega
    have hH : H ≤ 64 := by omega
    go_enter Try.func50, Try.ntmps50
    go_wp2
    all_goals (go_ret; exact ⟨ret_i (chk_bad hW hH (by omega)).symm, (Below.refl _ _).alloc (Nat.le_refl _) _⟩)
  have hW : W ≤ 64 := by omega
  have hH : H ≤ 64 := by omega
  have hW1 : 1 ≤ W := by omega
  have hH1 : 1 ≤ H := by omega
  have hm := mul_wrap hW hH hW1 hH1
  by_cases hl : (n : Int) = W * H
  · have hl' : ((n : Int) != wrap64 (W * H)) = false := by rw [hm, bne_eq_false_iff_eq]; exact hl
    have HL := Lib.hid hl; clear hl
    have HM := Lib.hid hm; clear hm
    go_enter Try.func50, Try.ntmps50
    go_wp2
    all_goals (go_ret; exact ⟨ret_i (chk_ok hW hH hW1 hH1 HL.out).symm, (Below.refl _ _).alloc (Nat.le_refl _) _⟩)
  · have hl' : ((n : Int) != wrap64 (W * H)) = true := by rw [hm, bne_iff_ne]; exact hl
    have HL := Lib.hid hl; clear hl
    have HM := Lib.hid hm; clear hm
    go_enter Try.func50, Try.ntmps50
    go_wp2
    all_goals (go_ret; exact ⟨ret_i (chk_bad hW hH (.inr (.inr HL.out))).symm, (Below.refl _ _).alloc (Nat.le_refl _) _⟩)
end Go.Proofs.Ytfjdlbilnoojkaa
/- A drawn region by an invariant, where an operation's slot is read before it is written: at the start each slot holds its own value. Nothing here names a function of the program. -/
namespace Go.Proofs.Ytfjdlbilnoojkaa
open Go.RowKit
section
variable {P : Program} {ops : Array Oper} {Q : Exit → Act → World → Prop}
/-- **A drawn region by an invariant** 'G' on what has come up (a list of flags), on the values of the operations' temporaries and on the world. -/
theorem wp_region_invO0 {id : Nat} {a : Act} {w : World} (n : Nat) (ds : List (Option Nat)) (G : List Bool → List Value → World → Prop) (hm : P.follows .mixedOrders = true)
    (hn : ops.size = n) (hd : ops.toList.map (·.dst) = ds) (hnd : ds.Pairwise Apart)
    (hlow : ((List.range n).all fun i => ((ops[i]?).map fun o => o.after.all fun e => !Region.binds .any e || decide (e.on < i)).getD true) = true)
    (h0 : G (List.replicate n false) (ds.map (ownAt a)) w.drew)
    (hstep : ∀ i, i < n → ∀ o, ops[i]? = some o → ∀ l xs w, l.length = n → xs.length = n → G l xs w → l.getD i false = false → (∀ j, (o.after.any fun e => Region.binds .any e && e.on == j) = true → l.getD j false = true) →
      ∀ K : Act → World → Prop, Shut (∀ v w', G (l.set i true) (xs.set i v) w' → K ((putAll a ds xs).put o.dst v) w') →
        if Region.wanted o (yielded ops (putAll a ds xs).tmps) = true then Oper.wp P o (putAll a ds xs) w K Q else K ((putAll a ds xs).put o.dst undef) w)
    (hfin : ∀ xs w, xs.length = n → G (List.replicate n true) xs w → Q .normal (putAll a ds xs) w) : (Code.region id ops true).wp P Q a w := by
  have hdl : ds.length = n := by
    have := congrArg List.length hd
    simpa [hn] using this.symm
  refine wp_region_any hm ?_
  have key := wpAny_inv (P := P) (ops := ops) (Q := Q) (md := .any) (fun l a' w' => ∃ xs, xs.length = n ∧ a' = putAll a ds xs ∧ G l xs w') ?_ ?_ ops.size (List.replicate ops.size false) a w.drew (by simp) (by
      have : toGo (List.replicate ops.size false) ≤ (List.replicate ops.size false).length := List.countP_le_length
      simpa using this) ⟨ds.map (ownAt a), by simp [hdl], (putAll_own ds a).symm, by rw [hn]; exact h0⟩
  · simpa using key
  · rintro i o l a' w' ho hl ⟨xs, hx, rfl, hG⟩ hi hdeps
    have hin : i < n := by rw [← hn]; exact (Array.getElem?_eq_some_iff.1 ho).1
    have hde : ds[i]? = some o.dst := by
      rw [← hd, List.getElem?_map, Array.getElem?_toList, ho]; rfl
    refine wpOp_step ho fun K' hK => hstep i hin o ho l xs w' (by rw [hl, hn]) hx hG (by rw [List.getD_eq_getElem?_getD, hi]; rfl) (fun j hj => ?_) K' (fun v w'' hg => hK _ _ ⟨xs.set i v, by simp [hx], putAll_set ds xs a i _ v hnd (by rw [hdl, hx]) hde, hg⟩)
    obtain ⟨e, he, hb⟩ := Array.any_eq_true'.1 hj
    simp only [Bool.and_eq_true, beq_iff_eq] at hb
    obtain ⟨hb, rfl⟩ := hb
    exact hdeps e he hb
  · rintro l a' w' hl hr ⟨xs, hx, rfl, hG⟩
    refine hfin xs w' hx ?_
    have hall : ∀ i, i < n → l[i]? = some true := by
      intro i
      induction i using Nat.strongRecOn with
      | ind i ih =>
        intro hi
        have hil : i < l.length := by omega
        rcases hb : l[i] with _ | _
        · exfalso
          have hio : i < ops.size := by omega
          have : i ∈ Region.ready .any ops l.toArray := mem_ready.2 ⟨by simp [Array.getD, hil, hb], ops[i], Array.getElem?_eq_getElem hio, fun e he hbd => by
            have h1 := (List.all_eq_true.1 hlow) i (List.mem_range.2 hi)
            rw [Array.getElem?_eq_getElem hio] at h1
            have h2 := Array.all_eq_true_iff_forall_mem.1 (show (ops[i].after.all fun e => !Region.binds .any e || decide (e.on < i)) = true from h1) e he
            have h2 : e.on < i := by simpa [hbd] using h2
            have h3 := ih e.on h2 (by omega)
            obtain ⟨h4, h5⟩ := List.getElem?_eq_some_iff.1 h3
            simp [Array.getD, h4, h5]⟩
          rw [hr] at this
          cases this
        · rw [List.getElem?_eq_getElem hil, hb]
    have : l = List.replicate n true := by
      refine List.ext_getElem? fun i => ?_
      by_cases hi : i < n
      · rw [hall i hi]; simp [hi]
      · rw [List.getElem?_eq_none (by omega), List.getElem?_eq_none (by simp; omega)]
    rw [← this]
    exact hG
/-- .. at a state that is written out. -/
theorem wp_region_invO {id : Nat} {ls : List Value} {df : List Deferred} {w : World} (n : Nat) (ds : List (Option Nat)) (G : List Bool → List Value → World → Prop) (hm : P.follows .mixedOrders = true)
    (hn : ops.size = n) (hd : ops.toList.map (·.dst) = ds) (hnd : ds.Pairwise Apart)
    (hlow : ((List.range n).all fun i => ((ops[i]?).map fun o => o.after.all fun e => !Region.binds .any e || decide (e.on < i)).getD true) = true)
    (h0 : G (List.replicate n false) (ds.map (ownAt ⟨ls.toArray, df⟩)) w.drew)
    (hstep : ∀ i, i < n → ∀ o, ops[i]? = some o → ∀ l xs w, l.length = n → xs.length = n → G l xs w → l.getD i false = false → (∀ j, (o.after.any fun e => Region.binds .any e && e.on == j) = true → l.getD j false = true) →
      ∀ K : Act → World → Prop, Shut (∀ v w', G (l.set i true) (xs.set i v) w' → K ⟨(setAll ls ds (xs.set i v)).toArray, df⟩ w') →
        if Region.wanted o (yielded ops (setAll ls ds xs).toArray) = true then Oper.wp P o ⟨(setAll ls ds xs).toArray, df⟩ w K Q else K ⟨(setAll ls ds (xs.set i undef)).toArray, df⟩ w)
    (hfin : ∀ xs w, xs.length = n → G (List.replicate n true) xs w → Q .normal ⟨(setAll ls ds xs).toArray, df⟩ w) : (Code.region id ops true).wp P Q ⟨ls.toArray, df⟩ w := by
  have hdl : ds.length = n := by
    have := congrArg List.length hd
    simpa [hn] using this.symm
  refine wp_region_invO0 n ds G hm hn hd hnd hlow h0 (fun i hi o ho l xs w' hl hx hG hb hdep K hK => ?_) (fun xs w' hx hG => by rw [putAll_list]; exact hfin xs w' hx hG)
  have hde : ds[i]? = some o.dst := by
    rw [← hd, List.getElem?_map, Array.getElem?_toList, ho]; rfl
  have hp : ∀ v, (putAll ⟨ls.toArray, df⟩ ds xs).put o.dst v = ⟨(setAll ls ds (xs.set i v)).toArray, df⟩ := fun v => by
    rw [putAll_set ds xs _ i _ v hnd (by rw [hdl, hx]) hde, putAll_list]
  have := hstep i hi o ho l xs w' hl hx hG hb hdep K (fun v w'' hg => by rw [← hp]; exact hK v w'' hg)
  rw [hp, putAll_list]
  exact this
end
end Go.Proofs.Ytfjdlbilnoojkaa
