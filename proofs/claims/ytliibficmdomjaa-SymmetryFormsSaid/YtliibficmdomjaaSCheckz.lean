/- symmetry.check of some grids. -/
import Derived.Test.YtliibficmdomjaaSym1z
namespace Go.Proofs.Ytliibficmdomjaa
open Go.RowKit

theorem St.of {w w' : World} (h : Below w.heap.size w w') : St w [] w' := ⟨h, by simp⟩
/-- What check answers. -/
def CheckR (k : Nat) (Wf Hf : Nat → Int) (nf : Nat → Nat) (r : Int) : Prop :=
  (∃ i, i < k ∧ (∀ j, j < i → chk (Wf j) (Hf j) (nf j) = 0) ∧ chk (Wf i) (Hf i) (nf i) ≠ 0 ∧ r = chk (Wf i) (Hf i) (nf i)) ∨
  ((∀ j, j < k → chk (Wf j) (Hf j) (nf j) = 0) ∧ (∃ j, j < k ∧ (16 < Wf j ∨ 16 < Hf j)) ∧ r = 4) ∨
  ((∀ j, j < k → chk (Wf j) (Hf j) (nf j) = 0) ∧ (∀ j, j < k → ¬ (16 < Wf j ∨ 16 < Hf j)) ∧ r = 0)
def CheckRet (k : Nat) (Wf Hf : Nat → Int) (nf : Nat → Nat) (w : World) (e : Ending) (w' : World) : Prop := ∃ r, CheckR k Wf Hf nf r ∧ e = .returned (.int .i64 r) ∧ Below w.heap.size w w'

set_option maxHeartbeats 2000000 in
theorem scheck_any (k bg : Nat) (Wf Hf : Nat → Int) (Af : Nat → Option Addr) (nf cf : Nat → Nat) (w : World) (hk : k ≤ 64)
    (hcell : ∀ i, i < k → ∀ wz, Below w.heap.size w wz → wz.cell? ⟨bg, i * 3, none⟩ = some (.int .i64 (Wf i)) ∧ wz.cell? ⟨bg, i * 3 + 1, none⟩ = some (.int .i64 (Hf i)) ∧ wz.cell? ⟨bg, i * 3 + 2, none⟩ = some (.slice (Af i) (nf i) (cf i))) :
    Calls Try.prog 25 #[.slice (some ⟨bg, 0, none⟩) k k] w (CheckRet k Wf Hf nf w) := by
  have HC := Lib.hid hcell
  clear hcell
  go_enter Try.func25, Try.ntmps25
  go_wp2_with fail
  go_loopw [10] (fun i wr => ∃ x : Nat, x ≤ k ∧ i = .int .i64 x ∧ (∀ j, j < x → chk (Wf j) (Hf j) (nf j) = 0) ∧ Below w.heap.size w wr) (fun i _ => k - (intOf i).toNat)
  case atStart => exact ⟨0, Nat.zero_le _, rfl, fun _ h => absurd h (by omega), Below.refl _ _⟩
  case round =>
    obtain ⟨x, hx, rfl, hall, hbel⟩ := hrel
    have HA := Lib.hid hall
    clear hall
    by_cases hlt : x < k
    · obtain ⟨g0, g1, g2⟩ := HC.out x hlt wr hbel
      by_cases h0 : chk (Wf x) (Hf x) (nf x) = 0
      · have hcb : (chk (Wf x) (Hf x) (nf x) != 0) = false := by simpa using h0
        have H0 := Lib.hid h0
        have S1 := (St.of hbel).box #[.int .i64 (Wf x), .int .i64 (Hf x), .slice (Af x) (nf x) (cf x)] 24
        obtain ⟨c0, c1, c2⟩ := (S1.blk 0 rfl).cell3
        clear h0
        go_wp2_with fail
        refine (check_any _ _ _ _ _ _).mono ?_
        rintro e w1 ⟨rfl, hb1⟩
        have S2 := S1.keep hb1
        clear c0 c1 c2 g0 g1 g2
        go_wp2_with fail
        go_roundw
        case rel =>
          refine ⟨x + 1, by omega, by go_num, fun j hj => ?_, S2.below⟩
          rcases Nat.lt_or_ge j x with h | h
          · exact HA.out j h
          · obtain rfl : j = x := by omega
            exact H0.out
        case measure => simp [intOf]; omega
      · have hcb : (chk (Wf x) (Hf x) (nf x) != 0) = true := by simpa using h0
        have H0 := Lib.hid h0
        have S1 := (St.of hbel).box #[.int .i64 (Wf x), .int .i64 (Hf x), .slice (Af x) (nf x) (cf x)] 24
        obtain ⟨c0, c1, c2⟩ := (S1.blk 0 rfl).cell3
        clear h0
        go_wp2_with fail
        refine (check_any _ _ _ _ _ _).mono ?_
        rintro e w1 ⟨rfl, hb1⟩
        have S2 := S1.keep hb1
        clear c0 c1 c2 g0 g1 g2
        go_wp2_with fail
        go_ret
        exact ⟨_, .inl ⟨x, hlt, HA.out, H0.out, rfl⟩, rfl, S2.below⟩
    · have hxk : x = k := by omega
      have HK : Hid (∀ j, j < k → chk (Wf j) (Hf j) (nf j) = 0) := Lib.hid fun j hj => HA.out j (by omega)
      clear HA
      go_wp2_with fail
      go_loopw [22] (fun i wr => ∃ x : Nat, x ≤ k ∧ i = .int .i64 x ∧ (∀ j, j < x → ¬ (16 < Wf j ∨ 16 < Hf j)) ∧ Below w.heap.size w wr) (fun i _ => k - (intOf i).toNat)
      case atStart => exact ⟨0, Nat.zero_le _, rfl, fun _ h => absurd h (by omega), hbel⟩
      case round =>
        clear hbel hx hxk hlt
        obtain ⟨x, hx, rfl, hall, hbel⟩ := hrel
        have HA := Lib.hid hall
        clear hall
        by_cases hlt : x < k
        · obtain ⟨g0, g1, g2⟩ := HC.out x hlt wr hbel
          have S1 := (St.of hbel).box #[.int .i64 (Wf x), .int .i64 (Hf x), .slice (Af x) (nf x) (cf x)] 24
          obtain ⟨c0, c1, c2⟩ := (S1.blk 0 rfl).cell3
          by_cases hb : 16 < Wf x ∨ 16 < Hf x
          · have HB := Lib.hid hb
            go_wp2_with fail
            all_goals
              go_ret
              exact ⟨_, .inr (.inl ⟨HK.out, ⟨x, hlt, HB.out⟩, rfl⟩), rfl, S1.below⟩
          · have HB := Lib.hid hb
            have hb1 : Wf x ≤ 16 := by omega
            have hb2 : Hf x ≤ 16 := by omega
            clear hb
            go_wp2_with fail
            all_goals
              go_roundw
              case rel =>
                refine ⟨x + 1, by omega, by go_num, fun j hj => ?_, S1.below⟩
                rcases Nat.lt_or_ge j x with h | h
                · exact HA.out j h
                · obtain rfl : j = x := by omega
                  exact HB.out
              case measure => simp [intOf]; omega
        · have hxk : x = k := by omega
          go_wp2_with fail
          go_ret
          exact ⟨_, .inr (.inr ⟨HK.out, fun j hj => HA.out j (by omega), rfl⟩), rfl, hbel⟩
/-- One grid. -/
theorem check1_any (W H : Int) (A : Option Addr) (n c bg : Nat) (t : TypeId) (w : World) (hb : Blk w bg t #[.int .i64 W, .int .i64 H, .slice A n c]) :
    Calls Try.prog 25 #[.slice (some ⟨bg, 0, none⟩) 1 1] w fun e w' => e = .returned (.int .i64 (startN W H n)) ∧ Below w.heap.size w w' := by
  refine (scheck_any 1 bg (fun _ => W) (fun _ => H) (fun _ => A) (fun _ => n) (fun _ => c) w (by omega) (fun i hi wz hz => ?_)).mono ?_
  · obtain rfl : i = 0 := by omega
    exact (hb.keep hz).cell3
  · rintro e w' ⟨r, hr, rfl, hbel⟩
    refine ⟨?_, hbel⟩
    rcases hr with ⟨i, _, _, h1, h2⟩ | ⟨h1, ⟨j, _, h2⟩, h3⟩ | ⟨h1, h2, h3⟩
    · rw [h2, startN_bad h1]
    · rw [h3, startN_big (h1 0 (by omega)) h2]
    · rw [h3, startN_ok (h1 0 (by omega)) (h2 0 (by omega))]
end Go.Proofs.Ytliibficmdomjaa
