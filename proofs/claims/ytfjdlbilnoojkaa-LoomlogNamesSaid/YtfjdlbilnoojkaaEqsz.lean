/- slices.Equal on slices of bools: whether they read the same. -/
import Derived.Test.YtfjdlbilnoojkaaStz
import Derived.Test.YtfjdlbilnoojkaaProg
import Derived.KernelRfl
import Derived.RegionTactic
import Derived.Handy
import Derived.Outline
import Derived.Deep.Draws
namespace Go.Proofs.Ytfjdlbilnoojkaa
open Go.RowKit

theorem ret_e {a b : Bool} (h : a = b) : Ending.returned (.bool a) = Ending.returned (.bool b) := by rw [h]
theorem bool_read {w : World} {bl o i n : Nat} {l : List Bool} (hl : l.length = n) (hi : i < n)
    (hc : ∀ j u, (l.map Value.bool)[j]? = some u → w.cell? ⟨bl, o + j, none⟩ = some u) : w.cell? ⟨bl, o + i, none⟩ = some (.bool (l.getD i false)) := by
  refine hc i _ ?_
  rw [List.getElem?_map, List.getElem?_eq_getElem (by omega)]
  simp [List.getD, show i < l.length by omega]

set_option maxHeartbeats 1600000 in
theorem eqs_any (l l2 : List Bool) (A A2 : Option Addr) (n c n2 c2 : Nat) (w : World) (hr : Rd w A n (l.map Value.bool)) (hr2 : Rd w A2 n2 (l2.map Value.bool)) (hn : n ≤ 1048576) :
    Calls Try.prog 54 #[.slice A n c, .slice A2 n2 c2] w fun e w' => e = .returned (.bool (decide (l = l2))) ∧ ∃ m, w' = w.drewN m := by
  have hl : l.length = n := by simpa using hr.len
  have hl2 : l2.length = n2 := by simpa using hr2.len
  by_cases hd : n = n2
  · subst hd
    have k3 : ((n : Int) != (n : Int)) = false := by simp
    have HL := Lib.hid hl
    have HL2 := Lib.hid hl2
    clear hl hl2
    go_enter Try.func54, Try.ntmps54
    go_wp2_with fail
    go_loopw [13] (fun i wr => ∃ k m : Nat, k ≤ n ∧ i = .int .i64 k ∧ (∀ j, j < k → l[j]? = l2[j]?) ∧ wr = w.drewN m) (fun i _ => n - (intOf i).toNat)
    case atStart => exact ⟨0, 0, Nat.zero_le _, rfl, fun _ h => absurd h (by omega), rfl⟩
    case round =>
      obtain ⟨k, m, hk, rfl, heq, rfl⟩ := hrel
      have HE := Lib.hid heq
      clear heq
      by_cases hlt : k < n
      · have hkl : k < l.length := by rw [HL.out]; exact hlt
        have hkl2 : k < l2.length := by rw [HL2.out]; exact hlt
        obtain ⟨ba, oa, hA1, hbl, hca⟩ := hr.at_ (by omega)
        obtain ⟨bb, ob, hA2, hbl2, hcb⟩ := hr2.at_ (by omega)
        subst hA1 hA2
        have hcella := bool_read HL.out hlt hca
        have hcellb := bool_read HL2.out hlt hcb
        have hpq : Hid (l.getD k false = l2.getD k false → l[k]? = l2[k]?) := fun h => by
          simp [List.getD, hkl, hkl2] at h
          simp [hkl, hkl2, h]
        have hne : Hid (l.getD k false ≠ l2.getD k false → l ≠ l2) := fun h e => h (by rw [e])
        generalize l.getD k false = p at *
        generalize l2.getD k false = q at *
        clear hca hcb hkl hkl2 hbl hbl2
        have hRR : Hid (p = q → ∀ j, j < k + 1 → l[j]? = l2[j]?) := fun e j hj => by
          by_cases hjk : j = k
          · subst hjk; exact hpq.out e
          · exact HE.out j (by omega)
        rcases p <;> rcases q
        all_goals
          go_wp2_with fail
          go_region
        all_goals
          go_wp2_with fail
          first
            | (go_ret
               exact ⟨ret_e (decide_eq_false (hne.out (by simp))).symm, m + 1, rfl⟩)
            | (go_roundw
               case rel => exact ⟨k + 1, m + 1, by omega, by go_num, hRR.out (by simp), rfl⟩
               case measure => simp [intOf]; omega)
      · have hkk : k = n := by omega
        have HS : Hid (l = l2) := List.ext_getElem? fun j => by
          by_cases hj : j < k
          · exact HE.out j hj
          · have h1 := HL.out
            have h2 := HL2.out
            rw [List.getElem?_eq_none (by omega), List.getElem?_eq_none (by omega)]
        go_wp2_with fail
        go_ret
        exact ⟨ret_e (decide_eq_true HS.out).symm, m, rfl⟩
  · have HN : Hid (l ≠ l2) := fun e => hd (by rw [← hl, ← hl2, e])
    have k3 : ((n : Int) != (n2 : Int)) = true := by simp; omega
    have k4 : (n != n2) = true := by simp; omega
    clear hl hl2 hr hr2
    go_enter Try.func54, Try.ntmps54
    go_wp2_with fail
    go_ret
    exact ⟨ret_e (decide_eq_false HN.out).symm, 0, rfl⟩
end Go.Proofs.Ytfjdlbilnoojkaa
