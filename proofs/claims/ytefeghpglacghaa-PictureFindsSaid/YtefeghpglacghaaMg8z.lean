/- Parts of the proof, in their order. -/
import Derived.Test.YtefeghpglacghaaRChoices15z
import Derived.Test.YtefeghpglacghaaFirstFz
/- raddleref15.Choices of any image. -/
namespace Go.Proofs.Ytefeghpglacghaa
open Go.RowKit

set_option linter.unusedVariables false in
set_option maxHeartbeats 4000000 in
set_option maxRecDepth 100000 in
theorem rchoices_err (m : Im) (A : Option Addr) (n c : Nat) (w : World) (hr : Rd w A n (m.c.map (Value.int .i64))) (hn : n ≤ 1048576) (hne : chkI m ≠ 0 ∨ ¬ ∃ F, FitF (N2 m.w.toNat m.h.toNat) (M2 m.w.toNat m.c) F) :
    Calls Try.prog 14 #[.agg #[.int .i64 m.w, .int .i64 m.h, .slice A n c]] w fun e w' => e = .returned (.tuple #[.slice none 0 0, .slice none 0 0, .int .i64 (if chkI m = 0 then 6 else 8)]) ∧ Below w.heap.size w w' := by
  have S0 := ((St.start w).addRd hr).box #[.int .i64 m.w, .int .i64 m.h, .slice A n c] 24
  simp only [List.nil_append, List.cons_append] at S0
  obtain ⟨c0, c1, c2⟩ := (S0.blk 1 rfl).cell3
  have HT := Lib.hid (fun W h => rfirst_any m A n c W h hn)
  have HE : Hid (∀ p q er, FirstI m p q er → p = [] ∧ q = [] ∧ er = if chkI m = 0 then 6 else 8) := Lib.hid (fun p q er h => by
    rcases h with ⟨h1, h2, h3, h4⟩ | ⟨h1, h2⟩
    · exact ⟨h2, h3, by rw [if_neg h1]; exact h4⟩
    · rcases hne with h3 | h3
      · exact absurd h1 h3
      · rcases h2 with ⟨_, _, _, h4, _⟩ | ⟨h4, h5, h6, _⟩
        · exact absurd ⟨_, h4⟩ h3
        · exact ⟨h5, h6, by rw [if_pos h1]; exact h4⟩)
  have hx : (if chkI m = 0 then (6 : Int) else 8) = 6 ∨ (if chkI m = 0 then (6 : Int) else 8) = 8 := by
    by_cases h : chkI m = 0
    · exact .inl (if_pos h)
    · exact .inr (if_neg h)
  clear hr hne
  generalize (if chkI m = 0 then (6 : Int) else 8) = t at *
  have htn : (t != 0) = true := by rcases hx with rfl | rfl <;> rfl
  go_enter Try.func14, Try.ntmps14
  go_wp2_with fail
  refine (HT.out _ (S0.rd 0 rfl)).mono ?_
  rintro e w1 ⟨p, q, er, A1, A2, k1, k2, rfl, hFI, _, _, hb1⟩
  have S1 := S0.keep hb1
  obtain ⟨rfl, rfl, rfl⟩ := HE.out _ _ _ hFI
  clear c0 c1 c2 HT HE hFI
  go_wp2_with fail
  go_ret3
  exact ⟨rfl, S1.below⟩
theorem rchoices_any (m : Im) (A : Option Addr) (n c : Nat) (w : World) (hr : Rd w A n (m.c.map (Value.int .i64))) (hn : n ≤ 1048576) :
    Calls Try.prog 14 #[.agg #[.int .i64 m.w, .int .i64 m.h, .slice A n c]] w fun e w' => ∃ (L0 L1 : List (List Int)) (er : Int) (A1 A2 : Option Addr) (c1 c2 : Nat),
      e = .returned (.tuple #[.slice A1 L0.length c1, .slice A2 L1.length c2, .int .i64 er]) ∧ ChoicesI m L0 L1 er ∧
      LL w' w.heap.size 22 3 (.slice A1 L0.length c1) L0.length L0 ∧ LL w' w.heap.size 22 3 (.slice A2 L1.length c2) L1.length L1 ∧ Below w.heap.size w w' := by
  have hln : m.c.length = n := by simpa using hr.len
  by_cases h0 : chkI m = 0
  · by_cases hF : ∃ F, FitF (N2 m.w.toNat m.h.toNat) (M2 m.w.toNat m.c) F
    · obtain ⟨W, H, cs⟩ := m
      obtain ⟨a, b, h1, h2, ha1, ha, hb1, hb, hl, hf⟩ := chkI_zero h0
      simp only at h1 h2 hl hf hln hr hF
      subst h1 h2
      obtain rfl : n = b * a := by omega
      obtain ⟨gA, oA, hA, _, _⟩ := hr.at_ (Nat.mul_pos hb1 ha1)
      subst hA
      refine (rchoices_ok a b cs gA oA c w ha1 ha hb1 hb hl hf h0 hF hr).mono ?_
      rintro e w' ⟨A1, A2, c1, c2, h1, h2, h3, h4⟩
      exact ⟨chLs a b cs 0 a, chLs a b cs 1 b, 0, A1, A2, c1, c2, by rw [chLs_len, chLs_len]; exact h1, .inr (.inr ⟨h0, hF, rfl, rfl, rfl⟩), by rw [chLs_len]; exact h2, by rw [chLs_len]; exact h3, h4⟩
    · refine (rchoices_err m A n c w hr hn (.inr hF)).mono ?_
      rintro e w' ⟨h1, h5⟩
      rw [if_pos h0] at h1
      exact ⟨[], [], 6, none, none, 0, 0, h1, .inr (.inl ⟨h0, hF, rfl, rfl, rfl⟩), LL.nil _ _ _ _, LL.nil _ _ _ _, h5⟩
  · refine (rchoices_err m A n c w hr hn (.inl h0)).mono ?_
    rintro e w' ⟨h1, h5⟩
    rw [if_neg h0] at h1
    exact ⟨[], [], 8, none, none, 0, 0, h1, .inl ⟨h0, rfl, rfl, rfl⟩, LL.nil _ _ _ _, LL.nil _ _ _ _, h5⟩
end Go.Proofs.Ytefeghpglacghaa
/- The chapter's examples of layer 15: the least fit of one image, and an image that nothing fits. No program in sight. -/
namespace Go.Proofs.Ytefeghpglacghaa
open Go.RowKit

instance pickDec (cs : List Int) (a b : Nat) (w : List Int) : Decidable (PicksOk cs a b w) := by unfold PicksOk; exact inferInstance
def valB (a b : Nat) (cs : List Int) : Bool := (List.range a).all fun x => (List.range b).all fun y => decide (0 ≤ cs.getD (y * a + x) 0) && decide (cs.getD (y * a + x) 0 ≤ 15) && decide (cs.getD (y * a + x) 0 ∈ cs)
theorem val_of {a b : Nat} {cs : List Int} (h : valB a b cs = true) : Val a b cs := fun x y hx hy => by
  unfold valB at h
  rw [List.all_eq_true] at h
  have h1 := h x (List.mem_range.2 hx)
  rw [List.all_eq_true] at h1
  have h2 := h1 y (List.mem_range.2 hy)
  simp only [Bool.and_eq_true, decide_eq_true_eq] at h2
  exact ⟨⟨h2.1.1, h2.1.2⟩, h2.2⟩
theorem first_ex : FirstR 2 2 [0, 1, 1, 1] [0, 0] [1, 1] 0 := by
  have h := Tried.done (a := 2) (b := 2) (cs := [0, 1, 1, 1]) (l := List.replicate 2 0) (val_of (by decide +kernel)) Tried.start rfl (Dig.zeros 2 pal_pos) (by decide +kernel)
  rw [show colL (pal [0, 1, 1, 1]) (List.replicate 2 0) = [0, 0] by decide +kernel, show picksL [0, 1, 1, 1] 2 [0, 0] 2 = [1, 1] by decide +kernel] at h
  exact h
def sqL : List Int := [0, 1, 2, 1, 2, 0, 2, 0, 1]
theorem no_square : ¬ ∃ F, FitF (N2 3 3) (M2 3 sqL) F := fun ⟨F, hF⟩ => by
  have hV : Val 3 3 sqL := val_of (by decide +kernel)
  obtain ⟨l, h1, h2, h3, _⟩ := pal_fit hV hF
  have hok := picks_of_fit hV h1 h2 h3
  have hn : (pal sqL).length = 4 := by decide +kernel
  rw [hn] at h2
  have key : ∀ x y z : Fin 4, ¬ PicksOk sqL 3 3 (colL (pal sqL) [((x : Nat) : Int), ((y : Nat) : Int), ((z : Nat) : Int)]) := by decide +kernel
  match l, h1 with
  | [x, y, z], _ =>
    have hx := h2 x (by simp)
    have hy := h2 y (by simp)
    have hz := h2 z (by simp)
    refine key ⟨x.toNat, by omega⟩ ⟨y.toNat, by omega⟩ ⟨z.toNat, by omega⟩ ?_
    simp only [show ((x.toNat : Nat) : Int) = x by omega, show ((y.toNat : Nat) : Int) = y by omega, show ((z.toNat : Nat) : Int) = z by omega]
    exact hok
theorem firstI_ex {p q : List Int} {e : Int} (h : FirstI ⟨2, 2, [0, 1, 1, 1]⟩ p q e) : p = [0, 0] ∧ q = [1, 1] ∧ e = 0 := by
  rcases h with ⟨h, _⟩ | ⟨_, h⟩
  · exact absurd (by decide +kernel) h
  · exact h.unique first_ex
theorem firstI_sq {p q : List Int} {e : Int} (h : FirstI ⟨3, 3, sqL⟩ p q e) : p = [] ∧ q = [] ∧ e = 6 := by
  rcases h with ⟨h, _⟩ | ⟨_, h⟩
  · exact absurd (by decide +kernel) h
  · exact h.unique (.inr ⟨rfl, rfl, rfl, no_square⟩)
end Go.Proofs.Ytefeghpglacghaa
