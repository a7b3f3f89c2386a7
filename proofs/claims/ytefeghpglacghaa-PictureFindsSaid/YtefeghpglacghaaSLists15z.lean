/- raddleref15.SameLists of lists that read the same. -/
import Derived.Test.YtefeghpglacghaaHas15z
namespace Go.Proofs.Ytefeghpglacghaa
open Go.RowKit

theorem LR.lit {w : World} {b o : Nat} {ls : List (List Int)} (h : LR w (some ⟨b, o, none⟩) ls) {i : Nat} {l : List Int} (hi : ls[i]? = some l) : ∃ A' c, w.cell? ⟨b, o + i, none⟩ = some (.slice A' l.length c) ∧ Rd w A' l.length (l.map (Value.int .i64)) := by
  obtain ⟨bl, ol, A', c, hA, h1, h2⟩ := h.at_ hi
  injection hA with e
  injection e with e1 e2
  subst e1 e2
  exact ⟨A', c, h1, h2⟩
theorem int_lit {w : World} {b o n i : Nat} {l : List Int} (h : Rd w (some ⟨b, o, none⟩) n (l.map (Value.int .i64))) (hi : i < n) : w.cell? ⟨b, o + i, none⟩ = some (.int .i64 (l.getD i 0)) := by
  have hl : l.length = n := by simpa using h.len
  exact h.lit i _ (by rw [List.getElem?_map, List.getElem?_eq_getElem (by omega)]; simp [List.getD, show i < l.length by omega])
theorem drewLR {w : World} {A : Option Addr} {ls : List (List Int)} (h : LR w A ls) (n : Nat) : LR (w.drewN n) A ls := h.below (below_drewN (Below.refl _ _) n)
set_option maxHeartbeats 1000000 in
set_option maxRecDepth 100000 in
theorem slists_nil (A A' : Option Addr) (c c' : Nat) (w : World) : Calls Try.prog 16 #[.slice A 0 c, .slice A' 0 c'] w fun e w' => e = .returned (.bool true) ∧ Below w.heap.size w w' := by
  go_enter Try.func16, Try.ntmps16
  go_wp2_with fail
  go_loopw [5] (fun v wr => v = .int .i64 0 ∧ Below w.heap.size w wr) (fun _ _ => 0)
  case atStart => exact ⟨rfl, Below.refl _ _⟩
  case round =>
    obtain ⟨rfl, hb⟩ := hrel
    go_wp2_with fail
    go_ret
    exact ⟨rfl, hb⟩
set_option linter.unusedVariables false in
set_option maxHeartbeats 2000000 in
set_option maxRecDepth 100000 in
theorem slists_pos (ls : List (List Int)) (b o b' o' c c' n : Nat) (w : World) (hn : ls.length = n) (h : LR w (some ⟨b, o, none⟩) ls) (h' : LR w (some ⟨b', o', none⟩) ls) (hl : n ≤ 1048576) (hm : ∀ l ∈ ls, l.length ≤ 1048576) :
    Calls Try.prog 16 #[.slice (some ⟨b, o, none⟩) n c, .slice (some ⟨b', o', none⟩) n c'] w fun e w' => e = .returned (.bool true) ∧ Below w.heap.size w w' := by
  have HN := Lib.hid hn
  clear hn
  go_enter Try.func16, Try.ntmps16
  go_wp2_with fail
  go_loopw [5] (fun v wr => ∃ i : Nat, i ≤ n ∧ v = .int .i64 i ∧ Below w.heap.size w wr) (fun v _ => n - (intOf v).toNat)
  case atStart => exact ⟨0, Nat.zero_le _, rfl, Below.refl _ _⟩
  case round =>
    obtain ⟨i, hi, rfl, hb⟩ := hrel
    by_cases hlt : i < n
    · obtain ⟨l, hli⟩ : ∃ l, ls[i]? = some l := ⟨ls[i]'(by have := HN.out; omega), List.getElem?_eq_getElem (by have := HN.out; omega)⟩
      have hl0 := hm l (List.mem_of_getElem? hli)
      obtain ⟨Al, k1, e0, r0⟩ := (h.below hb).lit hli
      obtain ⟨Al', k1', e0', r0'⟩ := (h'.below hb).lit hli
      have HLI := Lib.hid hli
      clear hli
      go_wp2_with fail
      go_quiet (fail)
      go_wp2_with fail
      clear e0 r0 e0' r0'
      go_loopw [6] (fun v wz => ∃ j : Nat, j ≤ l.length ∧ v = .int .i64 j ∧ Below w.heap.size w wz) (fun v _ => l.length - (intOf v).toNat)
      case atStart => exact ⟨0, Nat.zero_le _, rfl, below_drewN hb _⟩
      case round =>
        clear hb
        obtain ⟨j, hj, rfl, hb⟩ := hrel
        obtain ⟨Al, k1, e0, r0⟩ := (h.below hb).lit HLI.out
        obtain ⟨Al', k1', e0', r0'⟩ := (h'.below hb).lit HLI.out
        by_cases hjl : j < l.length
        · obtain ⟨bl, ol, hA, _, _⟩ := r0.at_ (by omega)
          obtain ⟨bl', ol', hA', _, _⟩ := r0'.at_ (by omega)
          subst hA hA'
          have g0 := int_lit r0 hjl
          have g0' := int_lit r0' hjl
          clear r0 r0'
          generalize l.getD j 0 = z at *
          go_wp2_with fail
          go_quiet (fail)
          go_wp2_with fail
          go_roundw
          case rel => exact ⟨j + 1, by omega, by go_num, below_drewN hb _⟩
          case measure => simp [intOf]; omega
        · go_wp2_with fail
          go_roundw
          case rel => exact ⟨i + 1, by omega, by go_num, hb⟩
          case measure => simp [intOf]; omega
    · go_wp2_with fail
      go_ret
      exact ⟨rfl, hb⟩
end Go.Proofs.Ytefeghpglacghaa
