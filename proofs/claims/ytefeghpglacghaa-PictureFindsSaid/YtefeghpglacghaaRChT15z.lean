/- raddleref15.Choices of any image. -/
import Derived.Test.YtefeghpglacghaaRChoices15z
namespace Go.Proofs.Ytefeghpglacghaa
open Go.RowKit

set_option linter.unusedVariables false in
set_option maxHeartbeats 4000000 in
set_option maxRecDepth 100000 in
theorem rchoices_err (m : Im) (A : Option Addr) (n c : Nat) (w : World) (hr : Rd w A n (m.c.map (Value.int .i64))) (hn : n ≤ 1048576) (hne : chkI m ≠ 0 ∨ ¬ ∃ F, FitF (N2 m.w.toNat m.h.toNat) (M2 m.w.toNat m.c) F) :
    Calls Try.prog 14 #[.agg #[.int .i64 m.w, .int .i64 m.h, .slice A n c]] w fun e w' => e = .returned (.tuple #[.slice none 0 0, .slice none 0 0, .int .i64 (if chkI m = 0 then 6 else 8)]) ∧ Below w.heap.size w w' := by
  have S0 := ((St.start w).addRd hr).box #[.int .i64 m.w, .int .i64 m.h, .slice A n c] 24
  simp only [List.nil_append, List.cons_append] at S0
  obtain ⟨c0, c1, c2⟩ := (S0.blk 1 rfl).cell3
  have HT := Lib.hid (fun W h => rfirst_any m A n c W h hn)
  have HE : Hid (∀ p q er, FirstI m p q er → p = [] ∧ q = [] ∧ er = if chkI m = 0 then 6 else 8) := Lib.hid (fun p q er h => by
    rcases h with ⟨h1, h2, h3, h4⟩ | ⟨h1, h2⟩
    · exact ⟨h2, h3, by rw [if_neg h1]; exact h4⟩
    · rcases hne with h3 | h3
      · exact absurd h1 h3
      · rcases h2 with ⟨_, _, _, h4, _⟩ | ⟨h4, h5, h6, _⟩
        · exact absurd ⟨_, h4⟩ h3
        · exact ⟨h5, h6, by rw [if_pos h1]; exact h4⟩)
  have hx : (if chkI m = 0 then (6 : Int) else 8) = 6 ∨ (if chkI m = 0 then (6 : Int) else 8) = 8 := by
    by_cases h : chkI m = 0
    · exact .inl (if_pos h)
    · exact .inr (if_neg h)
  clear hr hne
  generalize (if chkI m = 0 then (6 : Int) else 8) = t at *
  have htn : (t != 0) = true := by rcases hx with rfl | rfl <;> rfl
  go_enter Try.func14, Try.ntmps14
  go_wp2_with fail
  refine (HT.out _ (S0.rd 0 rfl)).mono ?_
  rintro e w1 ⟨p, q, er, A1, A2, k1, k2, rfl, hFI, _, _, hb1⟩
  have S1 := S0.keep hb1
  obtain ⟨rfl, rfl, rfl⟩ := HE.out _ _ _ hFI
  clear c0 c1 c2 HT HE hFI
  go_wp2_with fail
  go_ret3
  exact ⟨rfl, S1.below⟩
theorem rchoices_any (m : Im) (A : Option Addr) (n c : Nat) (w : World) (hr : Rd w A n (m.c.map (Value.int .i64))) (hn : n ≤ 1048576) :
    Calls Try.prog 14 #[.agg #[.int .i64 m.w, .int .i64 m.h, .slice A n c]] w fun e w' => ∃ (L0 L1 : List (List Int)) (er : Int) (A1 A2 : Option Addr) (c1 c2 : Nat),
      e = .returned (.tuple #[.slice A1 L0.length c1, .slice A2 L1.length c2, .int .i64 er]) ∧ ChoicesI m L0 L1 er ∧
      LL w' w.heap.size 22 3 (.slice A1 L0.length c1) L0.length L0 ∧ LL w' w.heap.size 22 3 (.slice A2 L1.length c2) L1.length L1 ∧ Below w.heap.size w w' := by
  have hln : m.c.length = n := by simpa using hr.len
  by_cases h0 : chkI m = 0
  · by_cases hF : ∃ F, FitF (N2 m.w.toNat m.h.toNat) (M2 m.w.toNat m.c) F
    · obtain ⟨W, H, cs⟩ := m
      obtain ⟨a, b, h1, h2, ha1, ha, hb1, hb, hl, hf⟩ := chkI_zero h0
      simp only at h1 h2 hl hf hln hr hF
      subst h1 h2
      obtain rfl : n = b * a := by omega
      obtain ⟨gA, oA, hA, _, _⟩ := hr.at_ (Nat.mul_pos hb1 ha1)
      subst hA
      refine (rchoices_ok a b cs gA oA c w ha1 ha hb1 hb hl hf h0 hF hr).mono ?_
      rintro e w' ⟨A1, A2, c1, c2, h1, h2, h3, h4⟩
      exact ⟨chLs a b cs 0 a, chLs a b cs 1 b, 0, A1, A2, c1, c2, by rw [chLs_len, chLs_len]; exact h1, .inr (.inr ⟨h0, hF, rfl, rfl, rfl⟩), by rw [chLs_len]; exact h2, by rw [chLs_len]; exact h3, h4⟩
    · refine (rchoices_err m A n c w hr hn (.inr hF)).mono ?_
      rintro e w' ⟨h1, h5⟩
      rw [if_pos h0] at h1
      exact ⟨[], [], 6, none, none, 0, 0, h1, .inr (.inl ⟨h0, hF, rfl, rfl, rfl⟩), LL.nil _ _ _ _, LL.nil _ _ _ _, h5⟩
  · refine (rchoices_err m A n c w hr hn (.inl h0)).mono ?_
    rintro e w' ⟨h1, h5⟩
    rw [if_neg h0] at h1
    exact ⟨[], [], 8, none, none, 0, 0, h1, .inl ⟨h0, rfl, rfl, rfl⟩, LL.nil _ _ _ _, LL.nil _ _ _ _, h5⟩
end Go.Proofs.Ytefeghpglacghaa
