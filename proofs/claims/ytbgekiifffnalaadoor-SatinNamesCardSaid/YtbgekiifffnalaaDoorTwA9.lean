/- satin.Twill. -/
import Derived.Test.YtbgekiifffnalaaDoorTwP
import Derived.Test.YtbgekiifffnalaaDoorRow9
import Derived.Test.YtbgekiifffnalaaDoorInfoB
import Derived.Test.YtbgekiifffnalaaDoorMvDef
import Derived.Laws.OwnMore
import Derived.BigRegion
import Derived.Lib.SliceRun
namespace Go.Proofs.YtbgekiifffnalaaDoor
open Go.RowKit

/-- A part of a readable slice. -/
theorem rd_from {w : World} {bl o n k : Nat} {l : List Bool} (h : Rd w (some ⟨bl, o, none⟩) n (l.map Value.bool)) (hk : k ≤ n) : Rd w (some ⟨bl, o + k, none⟩) (n - k) ((l.drop k).map Value.bool) := by
  have hl : l.length = n := by simpa using h.len
  refine ⟨by simp; omega, fun _ => ⟨bl, o + k, rfl, fun j u hj => ?_⟩⟩
  rw [Nat.add_assoc]
  refine h.lit (k + j) u ?_
  rw [← hj, List.getElem?_map, List.getElem?_map, List.getElem?_drop]
theorem rd_upto {w : World} {bl o n k : Nat} {l : List Bool} (h : Rd w (some ⟨bl, o, none⟩) n (l.map Value.bool)) (hk : k ≤ n) : Rd w (some ⟨bl, o, none⟩) k ((l.take k).map Value.bool) := by
  have hl : l.length = n := by simpa using h.len
  refine ⟨by simp; omega, fun _ => ⟨bl, o, rfl, fun j u hj => ?_⟩⟩
  refine h.lit j u ?_
  have hjk : j < k := by
    have := (List.getElem?_eq_some_iff.1 hj).1
    simp at this; omega
  rw [← hj, List.getElem?_map, List.getElem?_map, List.getElem?_take, if_pos hjk]

theorem rd_tail {w : World} {bl n k c : Nat} {l : List Bool} (h : Rd w (some ⟨bl, 0, none⟩) n (l.map Value.bool)) (hk : k ≤ n) : Rd w (if c = k then some ⟨bl, 0, none⟩ else some ⟨bl, k, none⟩) (n - k) ((l.drop k).map Value.bool) ∨ c = k := by
  by_cases hc : c = k
  · exact .inr hc
  · left
    rw [if_neg hc]
    simpa using rd_from h hk
theorem rd_tail2 {w : World} {bl n k c : Nat} {l : List Bool} (h : Rd w (some ⟨bl, 0, none⟩) n (l.map Value.bool)) (hk : k ≤ n) (hc : n ≤ c) : Rd w (if c = k then some ⟨bl, 0, none⟩ else some ⟨bl, k, none⟩) (n - k) ((l.drop k).map Value.bool) := by
  rcases rd_tail (c := c) h hk with h1 | h1
  · exact h1
  · have hl : l.length = n := by simpa using h.len
    have e : n - k = 0 := by omega
    rw [e]
    exact ⟨by simp; omega, fun h2 => absurd h2 (by omega)⟩
/-- The height that a grid's block tells. -/
def hOf (g : Nat) (w : World) : Nat := ((w.cell? ⟨g, 1, none⟩).map fun v => (intOf v).toNat).getD 0
theorem hOf_blk {w : World} {g : Nat} {t : TypeId} {a c : Value} {k : Nat} (h : Blk w g t #[a, .int .i64 k, c]) : hOf g w = k := by
  unfold hOf
  rw [h.cell 1]
  simp [intOf]

set_option maxHeartbeats 2000000 in
set_option maxRecDepth 100000 in
theorem twill_any (runs : List Int) (step : Int) (A0 : Option Addr) (n0 c0 : Nat) (w : World) (hr : Rd w A0 n0 (runs.map (Value.int .i64))) (hn0 : n0 ≤ 1048576) :
    Calls Tryd.prog 4 #[.slice A0 n0 c0, .int .i64 step] w (RetG (twillG runs step) w) := by
  obtain ⟨i0, hi, hz0, hz1, hz2⟩ := info_parts Tryd.infoB
  have qT : ∀ (w : World) (a : Option Addr) (n c n' c' : Nat), (binOp .eql 22 (.slice a n c) (.slice none n' c')).run Tryd.prog w = .ok (.bool a.isNone) w := fun w a n c n' c' => Lib.run_eql_slice_nil w _ _ a n c n' c' Tryd.underlying22
  have S0 := ((St.start w).addRd hr).box #[.int .i64 0, .int .i64 0, .slice none 0 0] 24
  simp only [List.nil_append, List.cons_append] at S0
  have hl0 : runs.length = n0 := by simpa using hr.len
  have HP := Lib.hid (prow_any runs A0 n0 c0 _ (S0.rd 0 rfl) hn0)
  obtain ⟨vb, hvb⟩ : ∃ vb, validB runs = vb := ⟨_, rfl⟩
  cases vb with
  | false =>
    rw [twillG_no hvb]
    have HV := Lib.hid hvb
    clear hvb hr
    go_enter Tryd.func4, Tryd.ntmps4
    go_wp2_with fail
    refine HP.out.mono ?_
    intro e w1 hret
    obtain ⟨rfl, hb1⟩ := hret.1 HV.out
    have S := S0.keep hb1
    obtain ⟨r0, r1, r2⟩ := (S.blk 1 rfl).cell3
    obtain ⟨f0, f1, f2⟩ := (S.blk 1 rfl).frozen3
    obtain ⟨q0, q1, q2⟩ := ((S.blk 1 rfl).set3 (.int .i64 0) (.int .i64 0) (.slice none 0 0)).cell3
    clear hret
    go_wp2_with fail
    refine bodyPost_ret (v := .tuple #[.agg #[.int .i64 0, .int .i64 0, .slice none 0 0], .int .i64 8]) (by simp [results, Tryd.results4, go_sem, q0, q1, q2]) rfl ?_
    exact bad_ret rfl (below_set3 S.below (Nat.le_refl _) _ _ _)
  | true =>
    obtain ⟨L, hL⟩ : ∃ L, rowK runs n0 = L := ⟨_, rfl⟩
    obtain ⟨⟨hv1, hv2, _⟩, hv3⟩ := validB_open hvb
    obtain ⟨n, hn⟩ : ∃ n, L.length = n := ⟨_, rfl⟩
    have hps := preS_bound (runs := runs) (k := n0) (by omega) (fun j hj => hv3 j (by omega))
    have hrl := rowK_length (runs := runs) (k := n0) (by omega) (fun j hj => hv3 j (by omega))
    have hok0 := hv3 0 (by omega)
    have hmono : 1 ≤ n := by
      rw [← hn, ← hL]
      obtain ⟨k, hk⟩ : ∃ k, n0 = k + 1 := ⟨n0 - 1, by omega⟩
      have hk1 := hv3 k (by omega)
      unfold okAt at hk1
      rw [decide_eq_true_eq] at hk1
      rw [hk, rowK_succ, List.length_append, List.length_replicate]
      omega
    have hn64 : n ≤ 64 := by rw [← hn, ← hL]; omega
    clear hps hrl hok0 hv1 hv2 hv3
    obtain ⟨s, hs⟩ : ∃ s, (step % (n : Int)).toNat = s := ⟨_, rfl⟩
    have hs0 := Int.emod_nonneg step (show (n : Int) ≠ 0 by omega)
    have hs1 := Int.emod_lt_of_pos step (show 0 < (n : Int) by omega)
    rw [twillG_yes hvb (hl0 ▸ hL) hn hs]
    have HV := Lib.hid hvb
    have HL := Lib.hid hL
    have HN := Lib.hid hn
    have HM2 := Lib.hid (Pl.mod2 step n (by omega))
    have ht1 := Int.tmod_lt_of_pos step (show 0 < (n : Int) by omega)
    have ht2 := Int.lt_tmod_of_pos step (show 0 < (n : Int) by omega)
    have hsI : step % (n : Int) = (s : Int) := by omega
    have hs64 : s < n := by omega
    have hn1 : ¬ (n : Int) = 0 := by omega
    have hn2 : ¬ n = 0 := by omega
    have hsm : step.tmod (n : Int) % (n : Int) = (s : Int) := by rw [← Int.add_emod_right, ← Int.tmod_eq_emod_of_nonneg (by omega), HM2.out, hsI]
    have hsm2 : (step.tmod (n : Int) + (n : Int)).tmod (n : Int) = (s : Int) := by rw [HM2.out, hsI]
    clear hvb hr hL hn hs hs0 hs1
    go_enter Tryd.func4, Tryd.ntmps4
    go_wp2_with fail
    refine HP.out.mono ?_
    intro e w1 hret
    obtain ⟨A1, n1, c1, rfl, hown1, hb1⟩ := hret.2 HV.out
    clear hret
    rw [HL.out] at hown1
    have hn1' : n1 = n := by have := hown1.1; simp at this; have := HN.out; omega
    subst hn1'
    obtain ⟨g1, rfl, _, hg1, hnc⟩ := own_form hown1 (by omega)
    have hrd1 := rd_of_own hown1
    have hB0 := below_then (St.below S0) hb1
    have hR1 := (S0.blk 1 rfl).keep hb1
    have S1 := (((St.start w1).addRd hrd1).addBlk hR1)
    simp only [List.nil_append, List.cons_append] at S1
    clear hown1 hrd1 hR1 S0 hb1
    have hG := Blk.new w1 24 #[.int .i64 n1, .int .i64 0, .slice none 0 0]
    have hB2 : Below w1.heap.size w1 (w1.alloc (.cells #[.int .i64 n1, .int .i64 0, .slice none 0 0] 24)) := (Below.refl _ _).alloc (Nat.le_refl _) _
    have HS1 := Lib.hid S1
    have HB0 := Lib.hid hB0
    have hT1 := twH_pos (n := n1) (s := s) (by omega)
    have hT2 := twH_le n1 s
    clear S1 hB0
    go_wp2_with fail
    go_loopw [9] (fun i wr => ∃ (k cp : Nat) (A : Option Addr), k < twH n1 s ∧ i = .int .i64 ((s * k % n1 : Nat) : Int) ∧ Blk wr w1.heap.size 24 #[.int .i64 n1, .int .i64 k, .slice A (k * n1) cp] ∧
        wr.ownsRow w1.heap.size 4 1 (.slice A (k * n1) cp) (k * n1) ((Pl.tab n1 k (twF L s)).map Value.bool) ∧ Below w1.heap.size w1 wr) (fun _ wr => twH n1 s - hOf w1.heap.size wr)
    case atStart => exact ⟨0, 0, none, hT1, by simp, by simpa using hG, by simpa [Pl.tab_zero] using World.ownsRow_nil _ _ _ _, hB2⟩
    case round =>
      clear hG hB2
      obtain ⟨k, cp, A, hk, rfl, hG, hown, hB⟩ := hrel
      have hS := HS1.out.keep hB
      have hrow := Lib.hid (twF_row (s := s) (k := k) HN.out (by omega))
      have ha : s * k % n1 < n1 := Nat.mod_lt _ (by omega)
      have hnx : Hid ((s * k % n1 + s) % n1 = s * (k + 1) % n1) := Lib.hid (by rw [Nat.mod_add_mod, Nat.mul_succ])
      have t1 : (((s * k % n1 : Nat) : Int) + (s : Int)).tmod (n1 : Int) = (((s * k % n1 + s) % n1 : Nat) : Int) := by rw [Int.tmod_eq_emod_of_nonneg (by omega), ← Int.natCast_add]; exact (Int.natCast_emod _ _).symm
      have t2 : (((s * k % n1 : Nat) : Int) + (s : Int)) % (n1 : Int) = (((s * k % n1 + s) % n1 : Nat) : Int) := by rw [← Int.natCast_add]; exact (Int.natCast_emod _ _).symm
      have hlt2 : (s * k % n1 + s) % n1 < n1 := Nat.mod_lt _ (by omega)
      generalize (s * k % n1 + s) % n1 = a' at *
      generalize s * k % n1 = a at *
      obtain ⟨m, hm⟩ : ∃ m, n1 - a = m := ⟨_, rfl⟩
      rw [hm] at hrow
      have hmI : (n1 : Int) - (a : Int) = (m : Int) := by omega
      have hm2 : 1 ≤ m ∧ m ≤ n1 := by omega
      obtain ⟨m0, m1, m2⟩ := hG.cell3
      have hbs := hG.lt
      go_wp2_with fail
      have hwm : IntKind.i64.wrap (m : Int) = (m : Int) := IntWalk.i64_in _ (by omega)
      have hrA := rd_tail2 (hS.rd 0 rfl) hm2.2 hnc
      have hkn : k * n1 ≤ 4096 := Nat.le_trans (Nat.mul_le_mul (show k ≤ 64 by omega) hn64) (by decide)
      have hmc : (m : Int) ≤ (c1 : Int) := by omega
      have hrA := hrA.drew
      go_region_law
        (first
          | (refine step_app_all _ rfl (.tmp 27) (.tmp 32) 22 rfl w1.heap.size 4 i0 (.bool false) 1 Tryd.underlying22 hi hz0 hz1 hz2 rfl (by decide) (.slice A (k * n1) cp) (k * n1) _ rfl hown.drew _ (n1 - m) _ _ rfl hrA (oneCell_bools _) (by omega) hS.size ?_
             intro A3 c3 w3 hown3 hgr3
             have hB3 := hB.drew.grown hgr3 hS.size (fun q hq => (hown.lt q hq).1)
             have hrB := rd_upto ((HS1.out.keep hB3).rd 0 rfl) hm2.2
             have hG3 := hG.drew.grown hgr3 (own_blk_ne hown.drew hG.drew (by decide)))
          | (refine step_app_all _ rfl (.tmp 33) (.tmp 38) 22 rfl w1.heap.size 4 i0 (.bool false) 1 Tryd.underlying22 hi hz0 hz1 hz2 rfl (by decide) (.slice A3 (k * n1 + (n1 - m)) c3) (k * n1 + (n1 - m)) _ rfl hown3 _ m _ _ rfl hrB (oneCell_bools _) (by omega) hB3.size ?_
             intro A4 c4 w4 hown4 hgr4
             have hB4 := hB3.grown hgr4 hB3.size (fun q hq => (hown3.lt q hq).1)
             have hG4 := hG3.grown hgr4 (own_blk_ne hown3 hG3 (by decide))
             have hf4 := hG4.frozen 2
             have hm4 := hG4.cell 2)
          | fail)
      all_goals
        generalize (if c1 = m then (some ⟨g1, 0, none⟩ : Option Addr) else some ⟨g1, m, none⟩) = AA at *
        have HOF := Lib.hid (hOf_blk hG)
        have e1 : k * n1 + (n1 - m) + m = (k + 1) * n1 := by rw [Nat.succ_mul]; omega
        have e2 : (Pl.tab n1 k (twF L s)).map Value.bool ++ (L.drop m).map Value.bool ++ (L.take m).map Value.bool = (Pl.tab n1 (k + 1) (twF L s)).map Value.bool := by
          rw [List.append_assoc, ← List.map_append, hrow.out, Pl.tab_succ, List.map_append]
        obtain ⟨K, hK⟩ : ∃ K, k + 1 = K := ⟨_, rfl⟩
        rw [hK] at e1 e2
        rw [e1, e2] at hown4
        rw [e1]
        have G5 := hG4.set_ 2 (.slice A4 (K * n1) c4)
        have O5 := own_far hown4 (p := ⟨w1.heap.size, 2, none⟩) (own_blk_ne hown4 hG4 (by decide)) (.slice A4 (K * n1) c4)
        have B5 := hB4.setCell (p := ⟨w1.heap.size, 2, none⟩) (by simp) (.slice A4 (K * n1) c4)
        clear hown4 hgr4 hB4 hG4 hf4 hm4 hG3 hrB hB3 hgr3 hown3 hrA hG hown hB hS m0 m1 m2 hbs hmc hwm
        generalize w4.setCell ⟨w1.heap.size, 2, none⟩ (.slice A4 (K * n1) c4) = w5 at G5 O5 B5 ⊢
        simp only [List.setIfInBounds_toArray, List.set_cons_succ, List.set_cons_zero] at G5
        have p1 := G5.cell 1
        have f1 := G5.frozen 1
        have G6 := G5.set_ 1 (.int .i64 (K : Int))
        have O6 := own_far O5 (p := ⟨w1.heap.size, 1, none⟩) (own_blk_ne O5 G5 (by decide)) (.int .i64 (K : Int))
        have B6 := B5.setCell (p := ⟨w1.heap.size, 1, none⟩) (by simp) (.int .i64 (K : Int))
        simp only [List.setIfInBounds_toArray, List.set_cons_succ, List.set_cons_zero] at G6
        have hwk : (k : Int) + 1 = (K : Int) := by omega
        have hwk2 : IntKind.i64.wrap (K : Int) = (K : Int) := IntWalk.i64_in _ (by omega)
        obtain ⟨w6, hw6⟩ : ∃ w6, w5.setCell ⟨w1.heap.size, 1, none⟩ (.int .i64 (K : Int)) = w6 := ⟨_, rfl⟩
        rw [hw6] at G6 O6 B6
        have S6 := HS1.out.keep B6
        have HKK := Lib.hid hK
        by_cases h0 : s * (k + 1) % n1 = 0
        · have HE := Lib.hid (hK ▸ tw_end (by omega) hk h0)
          rw [← hnx.out] at h0
          subst h0
          obtain ⟨y0, y1, y2⟩ := G6.cell3
          obtain ⟨r0, r1, r2⟩ := (S6.blk 1 rfl).cell3
          obtain ⟨f0, f1', f2⟩ := (S6.blk 1 rfl).frozen3
          obtain ⟨q0, q1, q2⟩ := ((S6.blk 1 rfl).set3 (.int .i64 n1) (.int .i64 (K : Int)) (.slice A4 (K * n1) c4)).cell3
          have O7 := own_set3 O6 (S6.blk 1 rfl) (by decide) (.int .i64 n1) (.int .i64 (K : Int)) (.slice A4 (K * n1) c4)
          have BB := below_set3 (below_then HB0.out B6) (Nat.le_refl _) (.int .i64 n1) (.int .i64 (K : Int)) (.slice A4 (K * n1) c4)
          have hbase := HB0.out.size
          have O8 := own_base O7 hbase
          clear hK
          clear G5 O5 B5 G6 O6 B6 S6 O7
          go_wp2_with fail
          refine bodyPost_ret (v := .tuple #[.agg #[.int .i64 n1, .int .i64 (K : Int), .slice A4 (K * n1) c4], .int .i64 0]) (by simp [results, Tryd.results4, go_sem, q0, q1, q2]) rfl ?_
          rw [HE.out] at O8 BB ⊢
          exact ⟨_, _, c4, rfl, O8, BB⟩
        · have HK := Lib.hid (hK ▸ tw_more (by omega) hk h0)
          rw [← hnx.out] at h0
          clear hK
          clear G5 O5 B5 S6
          have HG6 := Lib.hid G6
          have HO6 := Lib.hid O6
          have HB6 := Lib.hid B6
          clear G6 O6 B6
          go_wp2_with fail
          go_roundw
          case rel => exact ⟨K, c4, A4, HK.out, by rw [← HKK.out, ← hnx.out], HG6.out, HO6.out, HB6.out⟩
          case measure =>
            have h1 := HK.out
            have h2 := HKK.out
            have h3 := HOF.out
            have h4 := hOf_blk HG6.out
            omega
end Go.Proofs.YtbgekiifffnalaaDoor
