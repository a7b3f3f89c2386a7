/- raddleref02.Place of a number that is in the list. -/
import Derived.Test.YtbgekiifffnalaaSt
import Derived.Test.YtbgekiifffnalaaChk
import Derived.BigQuiet
import Derived.Outline
namespace Go.Proofs.Ytbgekiifffnalaa
open Go.RowKit

def placeN (xs : List Int) (x : Int) : Nat := xs.findIdx (· == x)
set_option maxHeartbeats 1000000 in
theorem place_any (xs : List Int) (x : Int) (A : Option Addr) (n c : Nat) (w : World) (hr : Rd w A n (xs.map (Value.int .i64))) (hn : n ≤ 1048576) (hx : x ∈ xs) :
    Calls Try.prog 37 #[.slice A n c, .int .i64 n, .int .i64 x] w fun e w' => e = .returned (.int .i64 (placeN xs x : Nat)) ∧ w' = w := by
  have hl : xs.length = n := by simpa using hr.len
  have hlt : placeN xs x < n := by rw [← hl]; exact List.findIdx_lt_length_of_exists ⟨x, hx, by simp⟩
  have hno : ∀ k, k < placeN xs x → xs.getD k 0 ≠ x := fun k hk => by
    have h1 := List.not_of_lt_findIdx hk
    rw [List.getD_eq_getElem?_getD, List.getElem?_eq_getElem (by omega), Option.getD_some]
    simpa using h1
  have hat : xs.getD (placeN xs x) 0 = x := by
    have h1 := List.findIdx_getElem (xs := xs) (p := (· == x)) (w := by unfold placeN at hlt; omega)
    rw [List.getD_eq_getElem?_getD, List.getElem?_eq_getElem (by omega), Option.getD_some]
    unfold placeN
    simpa using h1
  have hcell : ∀ (wr : World) (k : Nat), Rd wr A n (xs.map (Value.int .i64)) → k < n → ∃ b o, A = some ⟨b, o, none⟩ ∧ wr.cell? ⟨b, o + k, none⟩ = some (.int .i64 (xs.getD k 0)) := fun wr k hr hk => by
    obtain ⟨b, o, hA, _, hc⟩ := hr.at_ (by omega)
    exact ⟨b, o, hA, hc k _ (by rw [List.getElem?_map, List.getElem?_eq_getElem (by omega)]; simp [List.getD, show k < xs.length by omega])⟩
  generalize placeN xs x = p at *
  have HC := Lib.hid hcell
  have HNO := Lib.hid hno
  have HAT := Lib.hid hat
  clear hcell hno hat hl hx
  go_enter Try.func37, Try.ntmps37
  go_wp2_with fail
  go_loopw [7] (fun i wr => ∃ k : Nat, k ≤ p ∧ i = .int .i64 k ∧ wr = w) (fun i _ => p - (intOf i).toNat)
  case atStart => exact ⟨0, Nat.zero_le _, rfl, rfl⟩
  case round =>
    obtain ⟨k, hk, rfl, rfl⟩ := hrel
    obtain ⟨b, o, hA, g0⟩ := HC.out _ k hr (by omega)
    subst hA
    have hkn : k < n := by omega
    by_cases hlk : k < p
    · have hne := HNO.out k hlk
      generalize xs.getD k 0 = z at *
      have hzb : (z == x) = false := by simpa using hne
      go_wp2_with fail
      go_roundw
      case rel => exact ⟨k + 1, by omega, by go_num, by trivial⟩
      case measure => simp [intOf]; omega
    · have hkp : k = p := by omega
      have HE : Hid (xs.getD k 0 = x) := Lib.hid (by rw [hkp]; exact HAT.out)
      rw [HE.out] at g0
      have HK := Lib.hid hkp
      clear hkp hlk
      go_wp2_with fail
      go_ret
      exact ⟨by rw [HK.out]; rfl, rfl⟩
end Go.Proofs.Ytbgekiifffnalaa
