/- Parts of the proof, in their order. -/
import Derived.Test.YtefeghpglacghaaViewz
import Derived.Test.YtefeghpglacghaaThrz
import Derived.Test.YtefeghpglacghaaMg6z
/- colour.Front: the side that is seen. -/
namespace Go.Proofs.Ytefeghpglacghaa
open Go.RowKit

set_option maxHeartbeats 1000000 in
theorem front_any (g : Gd) (p q : List Int) (A Ap Aq : Option Addr) (n c np cp nq cq : Nat) (w : World) (hr : Rd w A n (g.bits.map Value.bool)) (hrp : Rd w Ap np (p.map (Value.int .i64))) (hrq : Rd w Aq nq (q.map (Value.int .i64))) :
    Calls Try.prog 37 #[.agg #[.int .i64 g.w, .int .i64 g.h, .slice A n c], .slice Ap np cp, .slice Aq nq cq] w (RetI (frontI g p q) w) := by
  have lb : g.bits.length = n := by simpa using hr.len
  have lp : p.length = np := by simpa using hrp.len
  have lq : q.length = nq := by simpa using hrq.len
  have S0 := (((((((St.start w).addRd hr).addRd hrp).addRd hrq).box #[.int .i64 g.w, .int .i64 g.h, .slice A n c] 40).box #[.slice Ap np cp] 22).box #[.slice Aq nq cq] 22).box #[.int .i64 0, .int .i64 0, .slice none 0 0] 24
  simp only [size_alloc1, List.nil_append, List.cons_append] at S0
  obtain ⟨c0, c1, c2⟩ := (S0.blk 3 rfl).cell3
  have cp0 := (S0.blk 4 rfl).cell 0
  have cq0 := (S0.blk 5 rfl).cell 0
  have HT := Lib.hid (thr_any g p q A Ap Aq n c np cp nq cq _ lb (S0.rd 1 rfl) (S0.rd 2 rfl))
  by_cases h0 : thr g p q = 0
  · obtain ⟨a, b, bs, rfl, ha1, ha, hb1, hb, hl, hpa, hqb, _, _⟩ := thr_open h0
    have HC := Lib.hid (frontI_mk h0)
    rw [h0] at HT
    simp only at lb lp lq HT S0 c0 c1 c2 ⊢
    obtain rfl : n = b * a := by omega
    obtain rfl : np = a := by omega
    obtain rfl : nq = b := by omega
    clear h0 lb lp lq hl hpa hqb hr hrp hrq
    have hE := Proofs.enters_of Try.func67 (by kernel_rfl) rfl
    go_enter Try.func37, Try.ntmps37
    go_wp2_with fail
    refine HT.out.mono ?_
    rintro e w1 ⟨rfl, hb1⟩
    have S1 := S0.keep hb1
    clear c0 c1 c2 cp0 cq0 HT
    obtain ⟨c0, c1, c2⟩ := (S1.blk 3 rfl).cell3
    go_wp2_with fail
    refine (image_any 67 _ _ _ _ w1 ha hb hE (front1_gives _ _ _ _ _ A Ap Aq c cp cq bs p q w1 ha hb (S1.blk 3 rfl) (S1.blk 4 rfl) (S1.blk 5 rfl) (S1.rd 0 rfl) (S1.rd 1 rfl) (S1.rd 2 rfl))).mono ?_
    rintro e w2 ⟨A2, n2, c2', rfl, hown2, hb2⟩
    simp only at hown2 ⊢
    have S2 := S1.keep hb2
    have hR2 := S2.blk 6 rfl
    obtain ⟨r0, r1, r2⟩ := hR2.cell3
    obtain ⟨f0, f1, f2⟩ := hR2.frozen3
    obtain ⟨q0, q1, q2⟩ := (hR2.set3 (.int .i64 np) (.int .i64 nq) (.slice A2 n2 c2')).cell3
    clear c0 c1 c2
    go_wp2_with fail
    refine bodyPost_ret (v := .tuple #[.agg #[.int .i64 np, .int .i64 nq, .slice A2 n2 c2'], .int .i64 0]) (by simp [results, Try.results37, go_sem, q0, q1, q2]) rfl ?_
    refine ⟨A2, n2, c2', by rw [HC.out], ?_, below_set3 S2.below (by omega) _ _ _⟩
    rw [HC.out]
    exact own_set3 (own_base hown2 S1.size) hR2 (by decide) _ _ _
  · have hcb : (thr g p q != 0) = true := by simpa using h0
    have HC : Hid (frontI g p q = (Im.zero, thr g p q)) := withThr_bad h0 _
    clear h0 lb lp lq
    generalize thr g p q = t at *
    go_enter Try.func37, Try.ntmps37
    go_wp2_with fail
    refine HT.out.mono ?_
    rintro e w1 ⟨rfl, hb1⟩
    have S1 := S0.keep hb1
    clear c0 c1 c2 cp0 cq0 HT
    have hR2 := S1.blk 6 rfl
    obtain ⟨r0, r1, r2⟩ := hR2.cell3
    obtain ⟨f0, f1, f2⟩ := hR2.frozen3
    obtain ⟨q0, q1, q2⟩ := (hR2.set3 (.int .i64 0) (.int .i64 0) (.slice none 0 0)).cell3
    go_wp2_with fail
    refine bodyPost_ret (v := .tuple #[.agg #[.int .i64 0, .int .i64 0, .slice none 0 0], .int .i64 t]) (by simp [results, Try.results37, go_sem, q0, q1, q2]) rfl ?_
    exact bad_retI HC.out (below_set3 S1.below (by omega) _ _ _)

end Go.Proofs.Ytefeghpglacghaa
/- A part of a state by value: how many threads a side has. -/
namespace Go.Proofs.Ytefeghpglacghaa
open Go.RowKit
section
variable {P : Program}
theorem run_part_row {e : TypeId} {s off : Nat} {cs : Array Value} {d : TypeDesc} (hu : P.underlying e = some d) (hd : d.isRow = true) (hi : (P.info? e).map (·.size) = some s) (w : World) : (part e cs off).run P w = .ok (.agg (cs.extract off (off + s))) w := by
  have hagg : (isAgg e).run P w = .ok true w := by
    unfold isAgg
    rw [Sem.run_bind, run_underlying hu w]
    cases d <;> simp_all
  cases hq : P.info? e with
  | none => simp [hq] at hi
  | some i =>
    have hs : i.size = s := by simpa [hq] using hi
    simp [part, Sem.run_bind, hagg, sizeOf, typeInfo, hq, hs]
theorem run_index_row {t e : TypeId} {n s k : Nat} {cs : Array Value} {d : TypeDesc} (ht : P.underlying t = some (.array n e)) (hu : P.underlying e = some d) (hd : d.isRow = true) (hi : (P.info? e).map (·.size) = some s) (hk : k < n) (K : Int) (hK : K = k) (w : World) :
    (Instr.index t (.agg cs) (.int .i64 K)).run P w = .ok (.agg (cs.extract (k * s) (k * s + s))) w := by
  subst hK
  have hsz : (sizeOf e).run P w = .ok s w := by
    cases hq : P.info? e with
    | none => simp [hq] at hi
    | some i =>
      have hs : i.size = s := by simpa [hq] using hi
      simp [sizeOf, typeInfo, hq, hs]
  simp [Instr.index, run_underlying ht, asIntOf, hk, hsz, run_part_row hu hd hi]
end
theorem Try.infoYarns : (Try.prog.info? 83).map (·.size) = some 66 := by kernel_rfl
theorem Try.infoSid2 : (Try.prog.info? 80).map (·.size) = some 2 := by kernel_rfl
theorem state_n (k a b : Nat) (F0 F1 : Value) (p q : List Int) (hp : p.length = 64) (hk : k < 2) (K : Int) (hK : K = k) : ∃ X1 X2 : Array Value,
    (∀ w, (Instr.index 85 (.agg (stL a b F0 F1 p q).toArray) (.int .i64 K)).run Try.prog w = .ok (.agg X1) w) ∧ (∀ w, (Instr.field 83 (.agg X1) 0).run Try.prog w = .ok (.agg X2) w) ∧
    ∀ w, (Instr.field 80 (.agg X2) 0).run Try.prog w = .ok (.int .i64 (N2 a b k)) w := by
  refine ⟨(stL a b F0 F1 p q).toArray.extract (k * 66) (k * 66 + 66), ((stL a b F0 F1 p q).toArray.extract (k * 66) (k * 66 + 66)).extract 0 (0 + 2), fun w => run_index_row Try.underlying85 Try.underlying83 rfl Try.infoYarns hk K hK w, fun w => ?_, fun w => ?_⟩
  · simp [Instr.field, run_underlying Try.underlying83, asAgg, run_part_row Try.underlying80 rfl Try.infoSid2]
  · have h0 : (stL a b F0 F1 p q)[k * 66]? = some (.int .i64 (N2 a b k)) := by
      rcases (show k = 0 ∨ k = 1 by omega) with rfl | rfl
      · exact stL_0
      · exact stL_66 hp
    have hz : (isAgg 3).run Try.prog w = .ok false w := by
      unfold isAgg
      rw [Sem.run_bind, run_underlying Try.underlying3 w]
      rfl
    simp [Instr.field, run_underlying Try.underlying80, asAgg, part, hz, h0]
end Go.Proofs.Ytefeghpglacghaa
