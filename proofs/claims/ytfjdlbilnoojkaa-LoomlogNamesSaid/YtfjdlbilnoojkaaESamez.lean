/- raddleref20.Same of logs that read the same. -/
import Derived.Test.YtfjdlbilnoojkaaLogz
import Derived.Test.YtfjdlbilnoojkaaStz
import Derived.Test.YtfjdlbilnoojkaaProg
import Derived.KernelRfl
import Derived.RegionTactic
import Derived.Handy
import Derived.Outline
import Derived.BigQuiet
import Derived.Deep.Draws
namespace Go.Proofs.Ytfjdlbilnoojkaa
open Go.RowKit

theorem bool_lit {w : World} {b o n i : Nat} {l : List Bool} (h : Rd w (some ⟨b, o, none⟩) n (l.map Value.bool)) (hi : i < n) : w.cell? ⟨b, o + i, none⟩ = some (.bool (l.getD i false)) := by
  have hl : l.length = n := by simpa using h.len
  exact h.lit i _ (by rw [List.getElem?_map, List.getElem?_eq_getElem (by omega)]; simp [List.getD, show i < l.length by omega])
set_option maxHeartbeats 1000000 in
set_option maxRecDepth 100000 in
theorem esame_nil (A A' : Option Addr) (c c' : Nat) (w : World) : Calls Try.prog 22 #[.slice A 0 c, .slice A' 0 c'] w fun e w' => e = .returned (.bool true) ∧ Below w.heap.size w w' := by
  go_enter Try.func22, Try.ntmps22
  go_wp2_with fail
  go_loopw [5] (fun v wr => v = .int .i64 0 ∧ Below w.heap.size w wr) (fun _ _ => 0)
  case atStart => exact ⟨rfl, Below.refl _ _⟩
  case round =>
    obtain ⟨rfl, hb⟩ := hrel
    go_wp2_with fail
    go_ret
    exact ⟨rfl, hb⟩
set_option linter.unusedVariables false in
set_option maxHeartbeats 2000000 in
set_option maxRecDepth 100000 in
theorem esame_pos (ls : List Ev) (b o b' o' c c' n : Nat) (w : World) (h : LogR w (some ⟨b, o, none⟩) n ls) (h' : LogR w (some ⟨b', o', none⟩) n ls) (hl : n ≤ 1048576) (hm : ∀ l ∈ ls, l.2.length ≤ 1048576) :
    Calls Try.prog 22 #[.slice (some ⟨b, o, none⟩) n c, .slice (some ⟨b', o', none⟩) n c'] w fun e w' => e = .returned (.bool true) ∧ Below w.heap.size w w' := by
  have HN := Lib.hid h.len
  go_enter Try.func22, Try.ntmps22
  go_wp2_with fail
  go_loopw [5] (fun v wr => ∃ i : Nat, i ≤ n ∧ v = .int .i64 i ∧ Below w.heap.size w wr) (fun v _ => n - (intOf v).toNat)
  case atStart => exact ⟨0, Nat.zero_le _, rfl, Below.refl _ _⟩
  case round =>
    obtain ⟨i, hi, rfl, hb⟩ := hrel
    by_cases hlt : i < n
    · obtain ⟨q, l, hli⟩ : ∃ q l, ls[i]? = some (q, l) := ⟨(ls[i]'(by have := HN.out; omega)).1, (ls[i]'(by have := HN.out; omega)).2, List.getElem?_eq_getElem (by have := HN.out; omega)⟩
      have hl0 := hm (q, l) (List.mem_of_getElem? hli)
      obtain ⟨f0, Al, k1, e0, r0⟩ := (h.below hb).lit hli
      obtain ⟨f0', Al', k1', e0', r0'⟩ := (h'.below hb).lit hli
      have hl1 : l.length ≤ 1048576 := hl0
      clear hl0
      have HLI := Lib.hid hli
      clear hli
      go_wp2_with fail
      go_quiet (fail)
      go_wp2_with fail
      clear f0 f0' e0 r0 e0' r0'
      go_loopw [6] (fun v wz => ∃ j : Nat, j ≤ l.length ∧ v = .int .i64 j ∧ Below w.heap.size w wz) (fun v _ => l.length - (intOf v).toNat)
      case atStart => exact ⟨0, Nat.zero_le _, rfl, below_drewN hb _⟩
      case round =>
        clear hb
        obtain ⟨j, hj, rfl, hb⟩ := hrel
        obtain ⟨f0, Al, k1, e0, r0⟩ := (h.below hb).lit HLI.out
        obtain ⟨f0', Al', k1', e0', r0'⟩ := (h'.below hb).lit HLI.out
        by_cases hjl : j < l.length
        · obtain ⟨bl, ol, hA, _, _⟩ := r0.at_ (by omega)
          obtain ⟨bl', ol', hA', _, _⟩ := r0'.at_ (by omega)
          subst hA hA'
          have g0 := bool_lit r0 hjl
          have g0' := bool_lit r0' hjl
          clear r0 r0'
          generalize l.getD j false = z at *
          go_wp2_with fail
          go_quiet (fail)
          go_wp2_with fail
          go_roundw
          case rel => exact ⟨j + 1, by omega, by go_num, below_drewN hb _⟩
          case measure => simp [intOf]; omega
        · go_wp2_with fail
          go_roundw
          case rel => exact ⟨i + 1, by omega, by go_num, hb⟩
          case measure => simp [intOf]; omega
    · go_wp2_with fail
      go_ret
      exact ⟨rfl, hb⟩
theorem esame_any (ls : List Ev) (A A' : Option Addr) (c c' n : Nat) (w : World) (h : LogR w A n ls) (h' : LogR w A' n ls) (hl : n ≤ 1048576) (hm : ∀ l ∈ ls, l.2.length ≤ 1048576) :
    Calls Try.prog 22 #[.slice A n c, .slice A' n c'] w fun e w' => e = .returned (.bool true) ∧ Below w.heap.size w w' := by
  rcases Nat.eq_zero_or_pos n with rfl | hp
  · exact esame_nil A A' c c' w
  · obtain ⟨b, o, rfl, _⟩ := h.2 hp
    obtain ⟨b', o', rfl, _⟩ := h'.2 hp
    exact esame_pos ls b o b' o' c c' n w h h' hl hm
end Go.Proofs.Ytfjdlbilnoojkaa
