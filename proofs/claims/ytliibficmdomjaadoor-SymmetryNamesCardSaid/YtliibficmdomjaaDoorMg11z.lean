/- Parts of the proof, in their order. -/
import Derived.Test.YtliibficmdomjaaDoorMg3z
import Derived.Test.YtliibficmdomjaaDoorOfz
import Derived.Test.YtliibficmdomjaaDoorRecPz
import Derived.Outline
import Derived.BigQuiet
import Derived.BigRegion
import Derived.IntWalk
/- Operations one after the other, and their compositions. No program in sight. -/
namespace Go.Proofs.YtliibficmdomjaaDoor
open Go.RowKit

theorem appB_congr {a b : Nat} {F G : Nat → Nat → Bool} (h : ∀ x y, x < a → y < b → F x y = G x y) (b1 b2 b4 b8 : Bool) : appB a b F b1 b2 b4 b8 = appB a b G b1 b2 b4 b8 := by
  unfold appB
  rw [Pl.tab_congr (g := appF a b G b1 b2 b4 b8)]
  intro x y hx hy
  unfold appF
  cases b1 <;> cases b2 <;> cases b4 <;> simp only [if_true, Bool.false_eq_true, if_false] at hx hy ⊢ <;> rw [h _ _ (by omega) (by omega)]
theorem appB_bits (a b : Nat) (F : Nat → Nat → Bool) (b1 b2 b4 b8 c1 c2 c4 c8 : Bool) :
    appB (if b4 then b else a) (if b4 then a else b) (appF a b F b1 b2 b4 b8) c1 c2 c4 c8 = appB a b F (Bool.xor b1 (if b4 then c2 else c1)) (Bool.xor b2 (if b4 then c1 else c2)) (Bool.xor b4 c4) (Bool.xor b8 c8) := by
  have key : ∀ e1 e1' e2 e2', e1 = e1' → e2 = e2' → ((F e1 e2 != b8) != c8) = (F e1' e2' != (Bool.xor b8 c8)) := by
    rintro e1 _ e2 _ rfl rfl
    cases F e1 e2 <;> cases b8 <;> cases c8 <;> rfl
  cases b1 <;> cases b2 <;> cases b4 <;> cases c1 <;> cases c2 <;> cases c4 <;>
  · unfold appB
    simp only [if_true, Bool.false_eq_true, if_false, Bool.xor_true, Bool.xor_false, Bool.not_true, Bool.not_false]
    refine congrArg (fun l => (⟨_, _, l⟩ : Gd)) (Pl.tab_congr fun x y hx hy => ?_)
    unfold appF
    simp only [if_true, Bool.false_eq_true, if_false]
    exact key _ _ _ _ (by omega) (by omega)
theorem comp_bits : ((List.range 16).all fun m => (List.range 16).all fun n =>
    ((compN m n).testBit 0 == Bool.xor (m.testBit 0) (if m.testBit 2 then n.testBit 1 else n.testBit 0)) && ((compN m n).testBit 1 == Bool.xor (m.testBit 1) (if m.testBit 2 then n.testBit 0 else n.testBit 1)) &&
    ((compN m n).testBit 2 == Bool.xor (m.testBit 2) (n.testBit 2)) && ((compN m n).testBit 3 == Bool.xor (m.testBit 3) (n.testBit 3))) = true := by decide +kernel
theorem app_app {a b m n : Nat} {bs : List Bool} (hm : m < 16) (hn : n < 16) : appT (appG a b bs m) n = appG a b bs (compN m n) := by
  have h := comp_bits
  simp only [List.all_eq_true, List.mem_range, Bool.and_eq_true, beq_iff_eq] at h
  obtain ⟨⟨⟨e0, e1⟩, e2⟩, e3⟩ := h m hm n hn
  unfold appT appG
  rw [e0, e1, e2, e3, ← appB_bits]
  refine Eq.trans ?_ (appB_congr (F := cellF (if m.testBit 2 then b else a) (Pl.tab (if m.testBit 2 then b else a) (if m.testBit 2 then a else b) (appF a b (cellF a bs) (m.testBit 0) (m.testBit 1) (m.testBit 2) (m.testBit 3)))) (fun x y hx hy => tab_getD hx hy) _ _ _ _)
  unfold appB
  simp only [Int.toNat_natCast]
theorem app_zero {a b : Nat} {bs : List Bool} (h : bs.length = b * a) : appG a b bs 0 = ⟨a, b, bs⟩ := by
  unfold appG appB
  simp only [Nat.zero_testBit, Bool.false_eq_true, if_false]
  conv => rhs; rw [cell_tab h]
  refine congrArg (fun l => (⟨_, _, l⟩ : Gd)) (Pl.tab_congr fun x y hx hy => ?_)
  unfold appF
  simp only [Bool.false_eq_true, if_false, Bool.bne_false]
theorem comp_assoc_all : ((List.range 16).all fun m => (List.range 16).all fun n => (List.range 16).all fun k => compN (compN m n) k == compN m (compN n k)) = true := by decide +kernel
theorem comp_inv_all : ((List.range 16).all fun m => compN m (invN m) == 0 && compN (invN m) m == 0 && compN 0 m == m && compN m 0 == m) = true := by decide +kernel
theorem comp_assoc {m n k : Nat} (hm : m < 16) (hn : n < 16) (hk : k < 16) : compN (compN m n) k = compN m (compN n k) := by
  have h := comp_assoc_all
  simp only [List.all_eq_true, List.mem_range, beq_iff_eq] at h
  exact h m hm n hn k hk
theorem comp_inv {m : Nat} (hm : m < 16) : compN m (invN m) = 0 ∧ compN (invN m) m = 0 ∧ compN 0 m = m ∧ compN m 0 = m := by
  have h := comp_inv_all
  simp only [List.all_eq_true, List.mem_range, Bool.and_eq_true, beq_iff_eq] at h
  obtain ⟨⟨⟨h1, h2⟩, h3⟩, h4⟩ := h m hm
  exact ⟨h1, h2, h3, h4⟩
theorem app_back {a b m : Nat} {bs : List Bool} (h : bs.length = b * a) (hm : m < 16) : appT (appG a b bs m) (invN m) = ⟨a, b, bs⟩ := by
  rw [app_app hm (invN_lt hm), (comp_inv hm).1, app_zero h]
end Go.Proofs.YtliibficmdomjaaDoor
/- repeat.Rect: the least rectangle of a grid. -/
namespace Go.Proofs.YtliibficmdomjaaDoor
open Go.RowKit

/-- The least rectangle of a grid, or zeros, with the error. -/
def rectG (g : Gd) : (Int × Int) × Int := if chkG g = 0 then ((((latA g.w.toNat g.h.toNat g.bits : Nat) : Int), ((latC g.w.toNat g.h.toNat g.bits * (latA g.w.toNat g.h.toNat g.bits / Nat.gcd (latA g.w.toNat g.h.toNat g.bits) (latB g.w.toNat g.h.toNat g.bits)) : Nat) : Int)), 0) else ((0, 0), chkG g)
theorem rectG_ok {a b : Nat} {bs : List Bool} (h : chkG ⟨a, b, bs⟩ = 0) : rectG ⟨a, b, bs⟩ = ((((latA a b bs : Nat) : Int), ((latC a b bs * (latA a b bs / Nat.gcd (latA a b bs) (latB a b bs)) : Nat) : Int)), 0) := if_pos h
theorem rectG_bad {g : Gd} (h : chkG g ≠ 0) : rectG g = ((0, 0), chkG g) := if_neg h
theorem ret_3 {x x' y y' z z' : Int} (h1 : x = x') (h2 : y = y') (h3 : z = z') : Ending.returned (.tuple #[.int .i64 x, .int .i64 y, .int .i64 z]) = Ending.returned (.tuple #[.int .i64 x', .int .i64 y', .int .i64 z']) := by rw [h1, h2, h3]

set_option maxHeartbeats 2000000 in
theorem rect_any (g : Gd) (A0 : Option Addr) (n c : Nat) (w : World) (hr : Rd w A0 n (g.bits.map Value.bool)) (hc : n ≤ c) :
    Calls Tryd.prog 21 #[.agg #[.int .i64 g.w, .int .i64 g.h, .slice A0 n c]] w fun e w' => e = .returned (.tuple #[.int .i64 (rectG g).1.1, .int .i64 (rectG g).1.2, .int .i64 (rectG g).2]) ∧ Below w.heap.size w w' := by
  have S0 := ((St.start w).addRd hr).box #[.int .i64 g.w, .int .i64 g.h, .slice A0 n c] 24
  simp only [List.nil_append, List.cons_append] at S0
  obtain ⟨c0, c1, c2⟩ := (S0.blk 1 rfl).cell3
  have HO := Lib.hid (of_any g A0 n c _ (S0.rd 0 rfl) hc)
  by_cases h0 : chkG g = 0
  · obtain ⟨W, H, bs⟩ := g
    obtain ⟨a, b, h1, h2, ha1, ha, hbb1, hb, hl⟩ := chk_zero h0
    simp only at h1 h2 hl
    subst h1 h2
    have HC := rectG_ok h0
    have hL := lat_is (bs := bs) ha1 hbb1
    rw [ofG_ok h0] at HO
    obtain ⟨A, hA⟩ : ∃ q, latA a b bs = q := ⟨_, rfl⟩
    obtain ⟨B, hB⟩ : ∃ q, latB a b bs = q := ⟨_, rfl⟩
    obtain ⟨C, hC⟩ : ∃ q, latC a b bs = q := ⟨_, rfl⟩
    rw [hA, hB, hC] at HO HC hL
    have HR := Lib.hid HC
    have x1 := hL.a1
    have x2 := hL.a2
    have x3 := hL.b1
    have x4 := hL.c1
    have x5 := hL.c2
    clear h0 hl HC hL hA hB hC hr
    go_enter Tryd.func21, Tryd.ntmps21
    go_wp2_with fail
    refine HO.out.mono ?_
    rintro e w1 ⟨rfl, hb1⟩
    have S1 := (S0.keep hb1).box #[.int .i64 A, .int .i64 B, .int .i64 C] 64
    simp only [List.nil_append, List.cons_append] at S1
    have S2 := S1.sub (L' := [.blk w1.heap.size 64 #[.int .i64 A, .int .i64 B, .int .i64 C]]) (by simp)
    clear c0 c1 c2 S0 S1 HO
    go_wp2_with fail
    go_loopw [6] (fun i wr => ∃ k : Nat, 1 ≤ k ∧ k ≤ A ∧ i = .int .i64 k ∧ (∀ m : Nat, 1 ≤ m → m < k → m * B % A ≠ 0) ∧ St w [.blk w1.heap.size 64 #[.int .i64 A, .int .i64 B, .int .i64 C]] wr) (fun i _ => A - (intOf i).toNat)
    case atStart => exact ⟨1, Nat.le_refl _, x1, rfl, fun _ h1 h2 => absurd h1 (by omega), S2⟩
    case round =>
      clear S2
      obtain ⟨k, hk1, hkA, rfl, hall, S⟩ := hrel
      have HA := Lib.hid hall
      clear hall
      obtain ⟨l0, l1, l2⟩ := (S.blk 0 rfl).cell3
      have hA0 : ¬ (A : Int) = 0 := by omega
      have hA00 : ¬ A = 0 := by omega
      have hP : (k : Int) * (B : Int) = ((k * B : Nat) : Int) := (Int.natCast_mul k B).symm
      have hPb : k * B ≤ 64 * 64 := Nat.mul_le_mul (by omega) (by omega)
      have hQ : (k : Int) * (C : Int) = ((k * C : Nat) : Int) := (Int.natCast_mul k C).symm
      have hQb : k * C ≤ 64 * 64 := Nat.mul_le_mul (by omega) (by omega)
      have hT : ((k * B : Nat) : Int).tmod (A : Int) = ((k * B % A : Nat) : Int) := by rw [Int.tmod_eq_emod_of_nonneg (by omega)]; exact (Int.natCast_emod _ _).symm
      have hkk : k = A → k * B % A = 0 := fun h => by rw [h]; exact Nat.mul_mod_right A B
      have hE : ((k * B : Nat) : Int) % (A : Int) = ((k * B % A : Nat) : Int) := (Int.natCast_emod _ _).symm
      have HL : Hid (k * B % A = 0 → k = A / Nat.gcd A B) := fun h => rect_least x1 hk1 h HA.out
      have HK : Hid (k * B % A ≠ 0 → ∀ m : Nat, 1 ≤ m → m < k + 1 → m * B % A ≠ 0) := fun h m h1 h2 => by
        rcases Nat.lt_or_ge m k with h3 | h3
        · exact HA.out m h1 h3
        · obtain rfl : m = k := by omega
          exact h
      have hQ2 : Hid (k * C = C * k) := Lib.hid (Nat.mul_comm k C)
      generalize k * B % A = z at *
      generalize k * B = P at *
      generalize k * C = Q at *
      by_cases hz : z = 0
      · have HZ := Lib.hid (HL.out hz)
        subst hz
        go_wp2_with fail
        go_quiet (fail)
        go_wp2_with fail
        go_ret3
        refine ⟨ret_3 (by rw [HR.out]) ?_ (by rw [HR.out]), below_drewN S.below _⟩
        rw [HR.out]
        show (Q : Int) = ((C * (A / Nat.gcd A B) : Nat) : Int)
        rw [← HZ.out, ← hQ2.out]
      · have hlt : k < A := by
          rcases Nat.lt_or_ge k A with h | h
          · exact h
          · exact absurd (hkk (by omega)) hz
        have HN := Lib.hid (HK.out hz)
        have hz2 : ¬ (z : Int) = 0 := by omega
        go_wp2_with fail
        go_roundw
        case rel => exact ⟨k + 1, by omega, by omega, by go_num, HN.out, S⟩
        case measure => simp [intOf]; omega
  · have HC := Lib.hid (rectG_bad h0)
    rw [ofG_bad h0] at HO
    have hcb : (chkG g != 0) = true := by simpa using h0
    clear h0 hr
    generalize chkG g = t at *
    go_enter Tryd.func21, Tryd.ntmps21
    go_wp2_with fail
    refine HO.out.mono ?_
    rintro e w1 ⟨rfl, hb1⟩
    have S1 := (S0.keep hb1).alloc (.cells #[.int .i64 0, .int .i64 0, .int .i64 0] 64)
    clear c0 c1 c2
    go_wp2_with fail
    go_ret3
    exact ⟨ret_3 (by rw [HC.out]) (by rw [HC.out]) (by rw [HC.out]), S1.below⟩
end Go.Proofs.YtliibficmdomjaaDoor
