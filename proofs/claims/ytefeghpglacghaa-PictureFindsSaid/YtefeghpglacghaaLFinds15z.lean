/- The law PictureFinds, walked: it answers true and turns nothing that was there. -/
import Derived.Test.YtefeghpglacghaaMg8z
import Derived.Test.YtefeghpglacghaaWide15z
import Derived.Test.YtefeghpglacghaaMg5z
import Derived.Test.YtefeghpglacghaaLTurns15z
namespace Go.Proofs.Ytefeghpglacghaa
open Go.RowKit

set_option linter.unusedVariables false in
set_option maxHeartbeats 4000000 in
set_option maxRecDepth 100000 in
theorem pfinds_wide (m : Im) (A : Option Addr) (n c : Nat) (w : World) (hr : Rd w A n (m.c.map (Value.int .i64)))
    (HW : Hid (∀ W, Rd W A n (m.c.map (Value.int .i64)) → Calls Try.prog 10 #[.agg #[.int .i64 m.w, .int .i64 m.h, .slice A n c]] W fun e w' => e = .returned (.bool true) ∧ Below W.heap.size W w')) :
    Calls Try.prog 3 #[.agg #[.int .i64 m.w, .int .i64 m.h, .slice A n c]] w fun e w' => e = .returned (.bool true) ∧ Below w.heap.size w w' := by
  have S0 := ((St.start w).addRd hr).box #[.int .i64 m.w, .int .i64 m.h, .slice A n c] 24
  simp only [List.nil_append, List.cons_append] at S0
  obtain ⟨c0, c1, c2⟩ := (S0.blk 1 rfl).cell3
  clear hr
  go_enter Try.func3, Try.ntmps3
  go_wp2_with fail
  refine (HW.out _ (S0.rd 0 rfl)).mono ?_
  rintro e wz ⟨rfl, hbz⟩
  replace S0 := S0.keep hbz
  clear hbz c0 c1 c2
  go_wp2_with fail
  go_ret
  exact ⟨rfl, S0.below⟩

theorem FirstI.unique {m : Im} {p q p' q' : List Int} {e e' : Int} (h : FirstI m p q e) (h' : FirstI m p' q' e') : p = p' ∧ q = q' ∧ e = e' := by
  rcases h with ⟨h0, rfl, rfl, rfl⟩ | ⟨h0, h1⟩
  · rcases h' with ⟨_, rfl, rfl, rfl⟩ | ⟨h0', _⟩
    · exact ⟨rfl, rfl, rfl⟩
    · exact absurd h0' h0
  · rcases h' with ⟨h0', _⟩ | ⟨_, h1'⟩
    · exact absurd h0 h0'
    · exact h1.unique h1'
theorem ChoicesI.unique {m : Im} {p q p' q' : List (List Int)} {e e' : Int} (h : ChoicesI m p q e) (h' : ChoicesI m p' q' e') : p = p' ∧ q = q' ∧ e = e' := by
  rcases h with ⟨h0, rfl, rfl, rfl⟩ | ⟨h0, h1, rfl, rfl, rfl⟩ | ⟨h0, h1, rfl, rfl, rfl⟩ <;> rcases h' with ⟨h0', rfl, rfl, rfl⟩ | ⟨h0', h1', rfl, rfl, rfl⟩ | ⟨h0', h1', rfl, rfl, rfl⟩
  all_goals first
    | exact ⟨rfl, rfl, rfl⟩
    | exact absurd h0' h0
    | exact absurd h0 h0'
    | exact absurd h1' h1
    | exact absurd h1 h1'
theorem toNat_le {m : Im} (h0 : chkI m = 0) : m.w.toNat ≤ 64 ∧ m.h.toNat ≤ 64 := by
  obtain ⟨a, b, h1, h2, ha1, ha, hb1, hb, hl, hf⟩ := chkI_zero h0
  omega
theorem FirstI.len {m : Im} {p q : List Int} {e : Int} (h : FirstI m p q e) : p.length ≤ 1048576 ∧ q.length ≤ 1048576 := by
  rcases h with ⟨_, rfl, rfl, _⟩ | ⟨h0, ⟨_, h1, h2, _⟩ | ⟨_, rfl, rfl, _⟩⟩
  · simp
  · have := toNat_le h0
    omega
  · simp
theorem ChoicesI.len {m : Im} {p q : List (List Int)} {e : Int} (h : ChoicesI m p q e) : (p.length ≤ 64 ∧ ∀ l ∈ p, l.length ≤ 16) ∧ q.length ≤ 64 ∧ ∀ l ∈ q, l.length ≤ 16 := by
  rcases h with ⟨_, rfl, rfl, _⟩ | ⟨_, _, rfl, rfl, _⟩ | ⟨h0, _, rfl, rfl, _⟩
  · simp
  · simp
  · have := toNat_le h0
    exact ⟨⟨by rw [chLs_len]; omega, chLs_short _ _ _ _ _⟩, by rw [chLs_len]; omega, chLs_short _ _ _ _ _⟩
theorem slists_any (ls : List (List Int)) (hl : ls.length ≤ 64) (hm : ∀ l ∈ ls, l.length ≤ 16) (A A' : Option Addr) (c c' : Nat) (w : World) (h : LR w A ls) (h' : LR w A' ls) :
    Calls Try.prog 16 #[.slice A ls.length c, .slice A' ls.length c'] w fun e w' => e = .returned (.bool true) ∧ Below w.heap.size w w' := by
  by_cases hp : 1 ≤ ls.length
  · exact slists_to ls ls rfl _ rfl hp hl hm A A' c c' w h h'
  · rw [show ls.length = 0 by omega]
    exact slists_nil A A' c c' w

set_option linter.unusedVariables false in
set_option maxHeartbeats 4000000 in
set_option maxRecDepth 100000 in
theorem pfinds_main (m : Im) (A : Option Addr) (n c : Nat) (w : World) (hr : Rd w A n (m.c.map (Value.int .i64))) (hn : n ≤ 4200)
    (HW : Hid (∀ W, Rd W A n (m.c.map (Value.int .i64)) → Calls Try.prog 10 #[.agg #[.int .i64 m.w, .int .i64 m.h, .slice A n c]] W fun e w' => e = .returned (.bool false) ∧ Below W.heap.size W w')) :
    Calls Try.prog 3 #[.agg #[.int .i64 m.w, .int .i64 m.h, .slice A n c]] w fun e w' => e = .returned (.bool true) ∧ Below w.heap.size w w' := by
  have S0 := ((St.start w).addRd hr).box #[.int .i64 m.w, .int .i64 m.h, .slice A n c] 24
  simp only [List.nil_append, List.cons_append] at S0
  obtain ⟨c0, c1, c2⟩ := (S0.blk 1 rfl).cell3
  clear hr
  go_enter Try.func3, Try.ntmps3
  go_wp2_with fail
  refine (HW.out _ (S0.rd 0 rfl)).mono ?_
  rintro e w1 ⟨rfl, hb1⟩
  replace S0 := S0.keep hb1
  clear hb1 c0 c1 c2
  obtain ⟨c0, c1, c2⟩ := (S0.blk 1 rfl).cell3
  go_wp2_with fail
  refine (First_any m A n c _ (S0.rd 0 rfl) (by omega)).mono ?_
  rintro e w2 ⟨p, q, er, A1, A2, k1, k2, rfl, hF1, ho1, ho2, hb2⟩
  have S2 := ((S0.keep hb2).addRd (rd_of_own ho1)).addRd (rd_of_own ho2)
  simp only [List.nil_append, List.cons_append] at S2
  clear hb2 ho1 ho2 c0 c1 c2 S0
  obtain ⟨c0, c1, c2⟩ := (S2.blk 1 rfl).cell3
  have HF := Lib.hid hF1
  clear hF1
  go_wp2_with fail
  refine (rfirst_any m A n c _ (S2.rd 0 rfl) (by omega)).mono ?_
  rintro e w3 ⟨p', q', er', A3, A4, k3, k4, rfl, hF2, ho3, ho4, hb3⟩
  obtain ⟨rfl, rfl, rfl⟩ := HF.out.unique hF2
  have S3 := ((S2.keep hb3).addRd (rd_of_own ho3)).addRd (rd_of_own ho4)
  simp only [List.nil_append, List.cons_append] at S3
  have HLN := Lib.hid hF2.len
  clear hb3 ho3 ho4 c0 c1 c2 S2 hF2 HF
  obtain ⟨c0, c1, c2⟩ := (S3.blk 1 rfl).cell3
  go_wp2_with fail
  refine (Choices_any m A n c _ (S3.rd 0 rfl) (by omega)).mono ?_
  rintro e w4 ⟨L0, L1, eg, A5, A6, k5, k6, rfl, hC1, hl0, hl1, hb4⟩
  replace S3 := S3.keep hb4
  have HL0 := Lib.hid hl0.read
  have HL1 := Lib.hid hl1.read
  have HC := Lib.hid hC1
  clear hb4 c0 c1 c2 hl0 hl1 hC1
  obtain ⟨c0, c1, c2⟩ := (S3.blk 1 rfl).cell3
  go_wp2_with fail
  refine (rchoices_any m A n c _ (S3.rd 0 rfl) (by omega)).mono ?_
  rintro e w5 ⟨L0', L1', eg', A7, A8, k7, k8, rfl, hC2, hl2, hl3, hb5⟩
  obtain ⟨rfl, rfl, rfl⟩ := HC.out.unique hC2
  replace S3 := S3.keep hb5
  have hr0 := HL0.out.below hb5
  have hr1 := HL1.out.below hb5
  have hr2 := hl2.read
  have hr3 := hl3.read
  have HCL := Lib.hid hC2.len
  clear hb5 c0 c1 c2 hl2 hl3 hC2 HL0 HL1 HC
  go_wp2_with fail
  refine (lsame_any p A1 A3 _ _ _ _ _ (S3.rd 2 rfl) (S3.rd 4 rfl) HLN.out.1).mono ?_
  rintro e w6 ⟨rfl, hb6⟩
  replace S3 := S3.keep hb6
  replace hr0 := hr0.below hb6
  replace hr1 := hr1.below hb6
  replace hr2 := hr2.below hb6
  replace hr3 := hr3.below hb6
  clear hb6
  go_wp2_with fail
  refine (lsame_any q A2 A4 _ _ _ _ _ (S3.rd 3 rfl) (S3.rd 5 rfl) HLN.out.2).mono ?_
  rintro e w7 ⟨rfl, hb7⟩
  replace S3 := S3.keep hb7
  replace hr0 := hr0.below hb7
  replace hr1 := hr1.below hb7
  replace hr2 := hr2.below hb7
  replace hr3 := hr3.below hb7
  clear hb7
  go_wp2_with fail
  refine (slists_any L0 HCL.out.1.1 HCL.out.1.2 A5 A7 _ _ _ hr0 hr2).mono ?_
  rintro e w8 ⟨rfl, hb8⟩
  replace S3 := S3.keep hb8
  replace hr0 := hr0.below hb8
  replace hr1 := hr1.below hb8
  replace hr2 := hr2.below hb8
  replace hr3 := hr3.below hb8
  clear hb8
  go_wp2_with fail
  refine (slists_any L1 HCL.out.2.1 HCL.out.2.2 A6 A8 _ _ _ hr1 hr3).mono ?_
  rintro e w9 ⟨rfl, hb9⟩
  replace S3 := S3.keep hb9
  replace hr0 := hr0.below hb9
  replace hr1 := hr1.below hb9
  replace hr2 := hr2.below hb9
  replace hr3 := hr3.below hb9
  clear hb9
  go_wp2_with fail
  go_ret
  exact ⟨rfl, S3.below⟩
theorem pfinds_true (m : Im) (A : Option Addr) (n c : Nat) (w : World) (hr : Rd w A n (m.c.map (Value.int .i64))) :
    Calls Try.prog 3 #[.agg #[.int .i64 m.w, .int .i64 m.h, .slice A n c]] w fun e w' => e = .returned (.bool true) ∧ Below w.heap.size w w' := by
  have hln : m.c.length = n := by simpa using hr.len
  by_cases h1 : 4200 < n
  · exact pfinds_wide m A n c w hr (Lib.hid (fun W h => wide_0 m A n c W h h1))
  · by_cases h2 : chkI m = 0
    · by_cases h3 : 4 < m.w
      · exact pfinds_wide m A n c w hr (Lib.hid (fun W h => wide_2 m A n c W h h1 h2 h3))
      · by_cases h4 : 8 < m.h
        · exact pfinds_wide m A n c w hr (Lib.hid (fun W h => wide_3 m A n c W h h1 h2 h3 h4))
        · have hpos : 0 < n := by
            obtain ⟨W, H, cs⟩ := m
            obtain ⟨a, b, e1, e2, ha1, ha, hb1, hb, hl, hf⟩ := chkI_zero h2
            simp only at hl hln
            have := Nat.mul_pos hb1 ha1
            omega
          have h5 := fun W h => wide_4 m A n c W h h1 h2 h3 h4 hpos
          cases hd : decide ((5 : Int) < ((pal m.c).length : Int)) with
          | true =>
            rw [hd] at h5
            exact pfinds_wide m A n c w hr (Lib.hid h5)
          | false =>
            rw [hd] at h5
            exact pfinds_main m A n c w hr (by omega) (Lib.hid h5)
    · exact pfinds_main m A n c w hr (by omega) (Lib.hid (fun W h => wide_1 m A n c W h h1 h2))
end Go.Proofs.Ytefeghpglacghaa
