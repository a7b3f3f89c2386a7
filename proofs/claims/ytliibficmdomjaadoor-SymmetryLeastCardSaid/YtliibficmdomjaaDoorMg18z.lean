/- Parts of the proof, in their order. -/
import Derived.Test.YtliibficmdomjaaDoorMg13z
import Derived.Test.YtliibficmdomjaaDoorLeastQz
import Derived.Test.YtliibficmdomjaaDoorGroupPz
import Derived.Test.YtliibficmdomjaaDoorSprdPz
import Derived.Test.YtliibficmdomjaaDoorMovedPz
/- raddleref02.Place of any number. -/
namespace Go.Proofs.YtliibficmdomjaaDoor
open Go.RowKit

set_option maxHeartbeats 1000000 in
theorem place_no (xs : List Int) (x : Int) (A : Option Addr) (n c : Nat) (w : World) (hr : Rd w A n (xs.map (Value.int .i64))) (hn : n ≤ 1048576) (hx : x ∉ xs) :
    Calls Tryd.prog 19 #[.slice A n c, .int .i64 n, .int .i64 x] w fun e w' => e = .returned (.int .i64 (-1)) ∧ w' = w := by
  have hl : xs.length = n := by simpa using hr.len
  have hno : ∀ k, k < n → xs.getD k 0 ≠ x := fun k hk he => by
    rw [List.getD_eq_getElem?_getD, List.getElem?_eq_getElem (by omega), Option.getD_some] at he
    exact hx (he ▸ List.getElem_mem _)
  have hcell : ∀ (wr : World) (k : Nat), Rd wr A n (xs.map (Value.int .i64)) → k < n → ∃ b o, A = some ⟨b, o, none⟩ ∧ wr.cell? ⟨b, o + k, none⟩ = some (.int .i64 (xs.getD k 0)) := fun wr k hr hk => by
    obtain ⟨b, o, hA, _, hc⟩ := hr.at_ (by omega)
    exact ⟨b, o, hA, hc k _ (by rw [List.getElem?_map, List.getElem?_eq_getElem (by omega)]; simp [List.getD, show k < xs.length by omega])⟩
  have HC := Lib.hid hcell
  have HNO := Lib.hid hno
  clear hcell hno hl hx
  go_enter Tryd.func19, Tryd.ntmps19
  go_wp2_with fail
  go_loopw [7] (fun i wr => ∃ k : Nat, k ≤ n ∧ i = .int .i64 k ∧ wr = w) (fun i _ => n - (intOf i).toNat)
  case atStart => exact ⟨0, Nat.zero_le _, rfl, rfl⟩
  case round =>
    obtain ⟨k, hk, rfl, rfl⟩ := hrel
    by_cases hkn : k < n
    · obtain ⟨b, o, hA, g0⟩ := HC.out _ k hr (by omega)
      subst hA
      have hne := HNO.out k hkn
      generalize xs.getD k 0 = z at *
      have hzb : (z == x) = false := by simpa using hne
      go_wp2_with fail
      go_roundw
      case rel => exact ⟨k + 1, by omega, by go_num, by trivial⟩
      case measure => simp [intOf]; omega
    · have hke : k = n := by omega
      subst hke
      go_wp2_with fail
      go_ret
      exact ⟨by trivial, rfl⟩
/-- Whether a number stands in a list, as Place tells it. -/
theorem place_z (xs : List Int) (x : Int) (A : Option Addr) (n c : Nat) (w : World) (hr : Rd w A n (xs.map (Value.int .i64))) (hn : n ≤ 1048576) :
    Calls Tryd.prog 19 #[.slice A n c, .int .i64 n, .int .i64 x] w fun e w' => ∃ z : Int, e = .returned (.int .i64 z) ∧ (x ∈ xs → 0 ≤ z) ∧ (x ∉ xs → z < 0) ∧ Below w.heap.size w w' := by
  by_cases hx : x ∈ xs
  · exact (place_any xs x A n c w hr hn hx).mono fun e w' h => ⟨_, h.1, fun _ => by omega, fun k => absurd hx k, by rw [h.2]; exact Below.refl _ _⟩
  · exact (place_no xs x A n c w hr hn hx).mono fun e w' h => ⟨_, h.1, fun k => absurd k hx, fun _ => by omega, by rw [h.2]; exact Below.refl _ _⟩
end Go.Proofs.YtliibficmdomjaaDoor
/- Planes of windows with the sides of the least rectangle; the candidates of a least form belong to the plane alone. No program in sight. -/
namespace Go.Proofs.YtliibficmdomjaaDoor
open Go.RowKit

section
variable {a b : Nat} {bs : List Bool} (ha : 1 ≤ a) (hb : 1 ≤ b)
include ha hb
theorem rec_per : Per a b bs (recU a b bs : Int) 0 ∧ Per a b bs 0 (recV a b bs : Int) := by
  have h := lat_is (bs := bs) ha hb
  refine ⟨h.perA ha hb, (repB_all ha hb).1 ?_⟩
  rw [lat_up ha hb h]
  unfold recV
  simp
theorem rec_pos : 1 ≤ recU a b bs ∧ 1 ≤ recV a b bs ∧ recU a b bs ∣ a ∧ recV a b bs ∣ b := by
  have h := lat_is (bs := bs) ha hb
  obtain ⟨d1, d2, d3⟩ := rect_div ha hb h
  exact ⟨h.a1, d3, d1, d2⟩
/-- The plane of a window is the plane, moved. -/
theorem pl_win (x y : Nat) (X Y : Int) : pl (recU a b bs) (recV a b bs) (winG a b bs x y (recU a b bs) (recV a b bs)).bits X Y = pl a b bs (X + (x : Int)) (Y + (y : Int)) := by
  obtain ⟨hU, hV, _, _⟩ := rec_pos (bs := bs) ha hb
  obtain ⟨pU, pV⟩ := rec_per (bs := bs) ha hb
  obtain ⟨i, k, hi, hk, e1, e2⟩ := pl_red hU hV X Y
  rw [pl_of hi hk e1 e2]
  unfold winG tabD
  rw [tabD_get hi hk]
  unfold winF
  rw [← pl_nat (Nat.mod_lt _ ha) (Nat.mod_lt _ hb)]
  have eX : X = (i : Int) + X / (recU a b bs : Int) * (recU a b bs : Int) := by
    have := Int.emod_add_mul_ediv X (recU a b bs : Int)
    rw [Int.mul_comm] at this
    omega
  have eY : Y = (k : Int) + Y / (recV a b bs : Int) * (recV a b bs : Int) := by
    have := Int.emod_add_mul_ediv Y (recV a b bs : Int)
    rw [Int.mul_comm] at this
    omega
  have q := (pU.mul (X / (recU a b bs : Int))).add (pV.mul (Y / (recV a b bs : Int))) ((i : Int) + (x : Int)) ((k : Int) + (y : Int))
  simp only [Int.mul_zero, Int.add_zero, Int.zero_add] at q
  have e3 : X + (x : Int) = (i : Int) + (x : Int) + X / (recU a b bs : Int) * (recU a b bs : Int) := by omega
  have e4 : Y + (y : Int) = (k : Int) + (y : Int) + Y / (recV a b bs : Int) * (recV a b bs : Int) := by omega
  rw [e3, e4, q]
  exact pl_congr (by rw [Int.natCast_emod, Int.emod_emod]; congr 1; omega) (by rw [Int.natCast_emod, Int.emod_emod]; congr 1; omega)
end
/-- Grids with one plane have the same sides of the least rectangle. -/
theorem rec_meets {a b a' b' : Nat} {bs bs' : List Bool} (ha : 1 ≤ a) (hb : 1 ≤ b) (ha' : 1 ≤ a') (hb' : 1 ≤ b') {dx dy : Int} (h : Meets a b bs a' b' bs' dx dy) : recU a b bs = recU a' b' bs' ∧ recV a b bs = recV a' b' bs' := by
  obtain ⟨e1, e2, e3⟩ := h.lat ha hb ha' hb'
  unfold recU recV
  rw [e1, e2, e3]
  exact ⟨rfl, rfl⟩
/-- A window shows a part of the plane. -/
theorem win_tab {a b : Nat} {bs : List Bool} (ha : 1 ≤ a) (hb : 1 ≤ b) (x y U V : Nat) : winG a b bs x y U V = tabD U V fun i k => pl a b bs ((x : Int) + (i : Int)) ((y : Int) + (k : Int)) := by
  unfold winG
  refine tabD_congr fun i k _ _ => ?_
  unfold winF
  rw [← pl_nat (Nat.mod_lt _ ha) (Nat.mod_lt _ hb)]
  exact pl_congr (by rw [Int.natCast_emod, Int.emod_emod]; congr 1) (by rw [Int.natCast_emod, Int.emod_emod]; congr 1)
end Go.Proofs.YtliibficmdomjaaDoor
