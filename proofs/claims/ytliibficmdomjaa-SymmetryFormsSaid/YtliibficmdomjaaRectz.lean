/- repeat.Rect: the least rectangle of a grid. -/
import Derived.Test.YtliibficmdomjaaOfz
import Derived.Test.YtliibficmdomjaaRecPz
import Derived.Outline
import Derived.BigQuiet
import Derived.BigRegion
import Derived.IntWalk
namespace Go.Proofs.Ytliibficmdomjaa
open Go.RowKit

/-- The least rectangle of a grid, or zeros, with the error. -/
def rectG (g : Gd) : (Int × Int) × Int := if chkG g = 0 then ((((latA g.w.toNat g.h.toNat g.bits : Nat) : Int), ((latC g.w.toNat g.h.toNat g.bits * (latA g.w.toNat g.h.toNat g.bits / Nat.gcd (latA g.w.toNat g.h.toNat g.bits) (latB g.w.toNat g.h.toNat g.bits)) : Nat) : Int)), 0) else ((0, 0), chkG g)
theorem rectG_ok {a b : Nat} {bs : List Bool} (h : chkG ⟨a, b, bs⟩ = 0) : rectG ⟨a, b, bs⟩ = ((((latA a b bs : Nat) : Int), ((latC a b bs * (latA a b bs / Nat.gcd (latA a b bs) (latB a b bs)) : Nat) : Int)), 0) := if_pos h
theorem rectG_bad {g : Gd} (h : chkG g ≠ 0) : rectG g = ((0, 0), chkG g) := if_neg h
theorem ret_3 {x x' y y' z z' : Int} (h1 : x = x') (h2 : y = y') (h3 : z = z') : Ending.returned (.tuple #[.int .i64 x, .int .i64 y, .int .i64 z]) = Ending.returned (.tuple #[.int .i64 x', .int .i64 y', .int .i64 z']) := by rw [h1, h2, h3]

set_option maxHeartbeats 2000000 in
theorem rect_any (g : Gd) (A0 : Option Addr) (n c : Nat) (w : World) (hr : Rd w A0 n (g.bits.map Value.bool)) (hc : n ≤ c) :
    Calls Try.prog 32 #[.agg #[.int .i64 g.w, .int .i64 g.h, .slice A0 n c]] w fun e w' => e = .returned (.tuple #[.int .i64 (rectG g).1.1, .int .i64 (rectG g).1.2, .int .i64 (rectG g).2]) ∧ Below w.heap.size w w' := by
  have S0 := ((St.start w).addRd hr).box #[.int .i64 g.w, .int .i64 g.h, .slice A0 n c] 24
  simp only [List.nil_append, List.cons_append] at S0
  obtain ⟨c0, c1, c2⟩ := (S0.blk 1 rfl).cell3
  have HO := Lib.hid (of_any g A0 n c _ (S0.rd 0 rfl) hc)
  by_cases h0 : chkG g = 0
  · obtain ⟨W, H, bs⟩ := g
    obtain ⟨a, b, h1, h2, ha1, ha, hbb1, hb, hl⟩ := chk_zero h0
    simp only at h1 h2 hl
    subst h1 h2
    have HC := rectG_ok h0
    have hL := lat_is (bs := bs) ha1 hbb1
    rw [ofG_ok h0] at HO
    obtain ⟨A, hA⟩ : ∃ q, latA a b bs = q := ⟨_, rfl⟩
    obtain ⟨B, hB⟩ : ∃ q, latB a b bs = q := ⟨_, rfl⟩
    obtain ⟨C, hC⟩ : ∃ q, latC a b bs = q := ⟨_, rfl⟩
    rw [hA, hB, hC] at HO HC hL
    have HR := Lib.hid HC
    have x1 := hL.a1
    have x2 := hL.a2
    have x3 := hL.b1
    have x4 := hL.c1
    have x5 := hL.c2
    clear h0 hl HC hL hA hB hC hr
    go_enter Try.func32, Try.ntmps32
    go_wp2_with fail
    refine HO.out.mono ?_
    rintro e w1 ⟨rfl, hb1⟩
    have S1 := (S0.keep hb1).box #[.int .i64 A, .int .i64 B, .int .i64 C] 85
    simp only [List.nil_append, List.cons_append] at S1
    have S2 := S1.sub (L' := [.blk w1.heap.size 85 #[.int .i64 A, .int .i64 B, .int .i64 C]]) (by simp)
    clear c0 c1 c2 S0 S1 HO
    go_wp2_with fail
    go_loopw [6] (fun i wr => ∃ k : Nat, 1 ≤ k ∧ k ≤ A ∧ i = .int .i64 k ∧ (∀ m : Nat, 1 ≤ m → m < k → m * B % A ≠ 0) ∧ St w [.blk w1.heap.size 85 #[.int .i64 A, .int .i64 B, .int .i64 C]] wr) (fun i _ => A - (intOf i).toNat)
    case atStart => exact ⟨1, Nat.le_refl _, x1, rfl, fun _ h1 h2 => absurd h1 (by omega), S2⟩
    case round =>
      clear S2
      obtain ⟨k, hk1, hkA, rfl, hall, S⟩ := hrel
      have HA := Lib.hid hall
      clear hall
      obtain ⟨l0, l1, l2⟩ := (S.blk 0 rfl).cell3
      have hA0 : ¬ (A : Int) = 0 := by omega
      have hA00 : ¬ A = 0 := by omega
      have hP : (k : Int) * (B : Int) = ((k * B : Nat) : Int) := (Int.natCast_mul k B).symm
      have hPb : k * B ≤ 64 * 64 := Nat.mul_le_mul (by omega) (by omega)
      have hQ : (k : Int) * (C : Int) = ((k * C : Nat) : Int) := (Int.natCast_mul k C).symm
      have hQb : k * C ≤ 64 * 64 := Nat.mul_le_mul (by omega) (by omega)
      have hT : ((k * B : Nat) : Int).tmod (A : Int) = ((k * B % A : Nat) : Int) := by rw [Int.tmod_eq_emod_of_nonneg (by omega)]; exact (Int.natCast_emod _ _).symm
      have hkk : k = A → k * B % A = 0 := fun h => by rw [h]; exact Nat.mul_mod_right A B
      have hE : ((k * B : Nat) : Int) % (A : Int) = ((k * B % A : Nat) : Int) := (Int.natCast_emod _ _).symm
      have HL : Hid (k * B % A = 0 → k = A / Nat.gcd A B) := fun h => rect_least x1 hk1 h HA.out
      have HK : Hid (k * B % A ≠ 0 → ∀ m : Nat, 1 ≤ m → m < k + 1 → m * B % A ≠ 0) := fun h m h1 h2 => by
        rcases Nat.lt_or_ge m k with h3 | h3
        · exact HA.out m h1 h3
        · obtain rfl : m = k := by omega
          exact h
      have hQ2 : Hid (k * C = C * k) := Lib.hid (Nat.mul_comm k C)
      generalize k * B % A = z at *
      generalize k * B = P at *
      generalize k * C = Q at *
      by_cases hz : z = 0
      · have HZ := Lib.hid (HL.out hz)
        subst hz
        go_wp2_with fail
        go_quiet (fail)
        go_wp2_with fail
        go_ret3
        refine ⟨ret_3 (by rw [HR.out]) ?_ (by rw [HR.out]), below_drewN S.below _⟩
        rw [HR.out]
        show (Q : Int) = ((C * (A / Nat.gcd A B) : Nat) : Int)
        rw [← HZ.out, ← hQ2.out]
      · have hlt : k < A := by
          rcases Nat.lt_or_ge k A with h | h
          · exact h
          · exact absurd (hkk (by omega)) hz
        have HN := Lib.hid (HK.out hz)
        have hz2 : ¬ (z : Int) = 0 := by omega
        go_wp2_with fail
        go_roundw
        case rel => exact ⟨k + 1, by omega, by omega, by go_num, HN.out, S⟩
        case measure => simp [intOf]; omega
  · have HC := Lib.hid (rectG_bad h0)
    rw [ofG_bad h0] at HO
    have hcb : (chkG g != 0) = true := by simpa using h0
    clear h0 hr
    generalize chkG g = t at *
    go_enter Try.func32, Try.ntmps32
    go_wp2_with fail
    refine HO.out.mono ?_
    rintro e w1 ⟨rfl, hb1⟩
    have S1 := (S0.keep hb1).alloc (.cells #[.int .i64 0, .int .i64 0, .int .i64 0] 85)
    clear c0 c1 c2
    go_wp2_with fail
    go_ret3
    exact ⟨ret_3 (by rw [HC.out]) (by rw [HC.out]) (by rw [HC.out]), S1.below⟩
end Go.Proofs.Ytliibficmdomjaa
