/- Parts of the proof, in their order. -/
import Derived.Test.YtfjdlbilnoojkaaLEappz
import Derived.Test.YtfjdlbilnoojkaaPicksz
import Derived.Test.YtfjdlbilnoojkaaLogz
import Derived.Test.YtfjdlbilnoojkaaStz
import Derived.Test.YtfjdlbilnoojkaaProg
import Derived.KernelRfl
import Derived.RegionTactic
import Derived.Handy
import Derived.Outline
import Derived.BigQuiet
import Derived.Deep.Draws
import Derived.Test.YtfjdlbilnoojkaaPegCz
import Derived.Test.YtfjdlbilnoojkaaGreatz
/- The law's own lifts, picks and backs: lift, pick, back. -/
namespace Go.Proofs.Ytfjdlbilnoojkaa
open Go.RowKit

/-- The lifts of two shafts, by bits. -/
def liftB (n : Int) : List Bool := [decide (n % 2 = 1), decide (n / 2 % 2 = 1)]
set_option maxHeartbeats 1000000 in
theorem llift_any (n : Int) (w : World) (h : n = 1 ∨ n = 2 ∨ n = 3) : Calls Try.prog 33 #[.int .i64 n] w fun e w' => e = .returned (.slice (some ⟨w.heap.size, 0, none⟩) 2 2) ∧ Blk w' w.heap.size 4 #[.bool (decide (n % 2 = 1)), .bool (decide (n / 2 % 2 = 1))] ∧ Below w.heap.size w w' := by
  rcases h with rfl | rfl | rfl
  all_goals
    go_enter Try.func33, Try.ntmps33
    go_wp2_with fail
    go_ret
    exact ⟨rfl, Blk.new _ _ _, below_alloc1 w _⟩
theorem liftB_own {w : World} {g base : Nat} {n : Int} (h : Blk w g 4 #[.bool (decide (n % 2 = 1)), .bool (decide (n / 2 % 2 = 1))]) (hb : base ≤ g) : w.ownsRow base 4 1 (.slice (some ⟨g, 0, none⟩) 2 2) 2 ((liftB n).map Value.bool) := own_of_blk h hb (by simp [maxLen])
set_option maxHeartbeats 1000000 in
theorem lpick_any (n : Int) (w : World) (h : n = 1 ∨ n = 2 ∨ n = 3) : Calls Try.prog 32 #[.int .i64 n] w fun e w' => ∃ g, e = .returned (.agg #[.int .u8 1, .slice (some ⟨g, 0, none⟩) 2 2]) ∧ Rd w' (some ⟨g, 0, none⟩) 2 ((liftB n).map Value.bool) ∧ Below w.heap.size w w' := by
  have S0 := (St.start w).box #[.int .u8 0, .slice none 0 0] 59
  simp only [List.nil_append] at S0
  have HL := Lib.hid (fun u => llift_any n u h)
  go_enter Try.func32, Try.ntmps32
  go_wp2_with fail
  refine (HL.out _).mono ?_
  rintro e w1 ⟨rfl, hB, hb1⟩
  have S1 := S0.keep hb1
  have hR := rd_of_own (liftB_own (n := n) hB (Nat.le_refl _))
  obtain ⟨g, hg⟩ : ∃ g, g = w.heap.size + 1 := ⟨_, rfl⟩
  have hne : g ≠ w.heap.size := by omega
  rw [size_alloc1, ← hg] at hR
  have r0 := (S1.blk 0 rfl).cell 0
  have r1 := (S1.blk 0 rfl).cell 1
  have f0 := (S1.blk 0 rfl).frozen 0
  have f1 := (S1.blk 0 rfl).frozen 1
  have hb2 := ((S1.below).setCell (p := ⟨w.heap.size, 0, none⟩) (Nat.le_refl _) (.int .u8 1)).setCell (p := ⟨w.heap.size, 1, none⟩) (Nat.le_refl _) (.slice (some ⟨g, 0, none⟩) 2 2)
  have hS2 : Blk ((w1.setCell ⟨w.heap.size, 0, none⟩ (.int .u8 1)).setCell ⟨w.heap.size, 1, none⟩ (.slice (some ⟨g, 0, none⟩) 2 2)) w.heap.size 59 #[.int .u8 1, .slice (some ⟨g, 0, none⟩) 2 2] := by simpa using ((S1.blk 0 rfl).set_ 0 (.int .u8 1)).set_ 1 (.slice (some ⟨g, 0, none⟩) 2 2)
  have hR2 := (hR.far (p := ⟨w.heap.size, 0, none⟩) (fun b o hA _ => by injection hA with hA; injection hA with hA1 _; subst hA1; exact hne) (.int .u8 1)).far (p := ⟨w.heap.size, 1, none⟩) (fun b o hA _ => by injection hA with hA; injection hA with hA1 _; subst hA1; exact hne) (.slice (some ⟨g, 0, none⟩) 2 2)
  have q0 := hS2.cell 0
  have q1 := hS2.cell 1
  go_wp2_with fail
  rw [← hg]
  refine bodyPost_ret (v := .agg #[.int .u8 1, .slice (some ⟨g, 0, none⟩) 2 2]) (by simp [results, Try.results32, go_sem, q0, q1]) rfl ?_
  exact ⟨g, rfl, hR2, hb2⟩
set_option maxHeartbeats 1000000 in
theorem lback_any (w : World) : Calls Try.prog 31 #[] w fun e w' => e = .returned (.agg #[.int .u8 2, .slice none 0 0]) ∧ Below w.heap.size w w' := by
  have hB := Blk.new w 59 #[.int .u8 2, .slice none 0 0]
  have q0 := hB.cell 0
  have q1 := hB.cell 1
  go_enter Try.func31, Try.ntmps31
  go_wp2_with fail
  refine bodyPost_ret (v := .agg #[.int .u8 2, .slice none 0 0]) (by simp [results, Try.results31, go_sem, q0, q1]) rfl ?_
  exact ⟨rfl, below_alloc1 w _⟩
end Go.Proofs.Ytfjdlbilnoojkaa
/- raddleref20.Same of logs that read the same. -/
namespace Go.Proofs.Ytfjdlbilnoojkaa
open Go.RowKit

theorem bool_lit {w : World} {b o n i : Nat} {l : List Bool} (h : Rd w (some ⟨b, o, none⟩) n (l.map Value.bool)) (hi : i < n) : w.cell? ⟨b, o + i, none⟩ = some (.bool (l.getD i false)) := by
  have hl : l.length = n := by simpa using h.len
  exact h.lit i _ (by rw [List.getElem?_map, List.getElem?_eq_getElem (by omega)]; simp [List.getD, show i < l.length by omega])
set_option maxHeartbeats 1000000 in
set_option maxRecDepth 100000 in
theorem esame_nil (A A' : Option Addr) (c c' : Nat) (w : World) : Calls Try.prog 22 #[.slice A 0 c, .slice A' 0 c'] w fun e w' => e = .returned (.bool true) ∧ Below w.heap.size w w' := by
  go_enter Try.func22, Try.ntmps22
  go_wp2_with fail
  go_loopw [5] (fun v wr => v = .int .i64 0 ∧ Below w.heap.size w wr) (fun _ _ => 0)
  case atStart => exact ⟨rfl, Below.refl _ _⟩
  case round =>
    obtain ⟨rfl, hb⟩ := hrel
    go_wp2_with fail
    go_ret
    exact ⟨rfl, hb⟩
set_option linter.unusedVariables false in
set_option maxHeartbeats 2000000 in
set_option maxRecDepth 100000 in
theorem esame_pos (ls : List Ev) (b o b' o' c c' n : Nat) (w : World) (h : LogR w (some ⟨b, o, none⟩) n ls) (h' : LogR w (some ⟨b', o', none⟩) n ls) (hl : n ≤ 1048576) (hm : ∀ l ∈ ls, l.2.length ≤ 1048576) :
    Calls Try.prog 22 #[.slice (some ⟨b, o, none⟩) n c, .slice (some ⟨b', o', none⟩) n c'] w fun e w' => e = .returned (.bool true) ∧ Below w.heap.size w w' := by
  have HN := Lib.hid h.len
  go_enter Try.func22, Try.ntmps22
  go_wp2_with fail
  go_loopw [5] (fun v wr => ∃ i : Nat, i ≤ n ∧ v = .int .i64 i ∧ Below w.heap.size w wr) (fun v _ => n - (intOf v).toNat)
  case atStart => exact ⟨0, Nat.zero_le _, rfl, Below.refl _ _⟩
  case round =>
    obtain ⟨i, hi, rfl, hb⟩ := hrel
    by_cases hlt : i < n
    · obtain ⟨q, l, hli⟩ : ∃ q l, ls[i]? = some (q, l) := ⟨(ls[i]'(by have := HN.out; omega)).1, (ls[i]'(by have := HN.out; omega)).2, List.getElem?_eq_getElem (by have := HN.out; omega)⟩
      have hl0 := hm (q, l) (List.mem_of_getElem? hli)
      obtain ⟨f0, Al, k1, e0, r0⟩ := (h.below hb).lit hli
      obtain ⟨f0', Al', k1', e0', r0'⟩ := (h'.below hb).lit hli
      have hl1 : l.length ≤ 1048576 := hl0
      clear hl0
      have HLI := Lib.hid hli
      clear hli
      go_wp2_with fail
      go_quiet (fail)
      go_wp2_with fail
      clear f0 f0' e0 r0 e0' r0'
      go_loopw [6] (fun v wz => ∃ j : Nat, j ≤ l.length ∧ v = .int .i64 j ∧ Below w.heap.size w wz) (fun v _ => l.length - (intOf v).toNat)
      case atStart => exact ⟨0, Nat.zero_le _, rfl, below_drewN hb _⟩
      case round =>
        clear hb
        obtain ⟨j, hj, rfl, hb⟩ := hrel
        obtain ⟨f0, Al, k1, e0, r0⟩ := (h.below hb).lit HLI.out
        obtain ⟨f0', Al', k1', e0', r0'⟩ := (h'.below hb).lit HLI.out
        by_cases hjl : j < l.length
        · obtain ⟨bl, ol, hA, _, _⟩ := r0.at_ (by omega)
          obtain ⟨bl', ol', hA', _, _⟩ := r0'.at_ (by omega)
          subst hA hA'
          have g0 := bool_lit r0 hjl
          have g0' := bool_lit r0' hjl
          clear r0 r0'
          generalize l.getD j false = z at *
          go_wp2_with fail
          go_quiet (fail)
          go_wp2_with fail
          go_roundw
          case rel => exact ⟨j + 1, by omega, by go_num, below_drewN hb _⟩
          case measure => simp [intOf]; omega
        · go_wp2_with fail
          go_roundw
          case rel => exact ⟨i + 1, by omega, by go_num, hb⟩
          case measure => simp [intOf]; omega
    · go_wp2_with fail
      go_ret
      exact ⟨rfl, hb⟩
theorem esame_any (ls : List Ev) (A A' : Option Addr) (c c' n : Nat) (w : World) (h : LogR w A n ls) (h' : LogR w A' n ls) (hl : n ≤ 1048576) (hm : ∀ l ∈ ls, l.2.length ≤ 1048576) :
    Calls Try.prog 22 #[.slice A n c, .slice A' n c'] w fun e w' => e = .returned (.bool true) ∧ Below w.heap.size w w' := by
  rcases Nat.eq_zero_or_pos n with rfl | hp
  · exact esame_nil A A' c c' w
  · obtain ⟨b, o, rfl, _⟩ := h.2 hp
    obtain ⟨b', o', rfl, _⟩ := h'.2 hp
    exact esame_pos ls b o b' o' c c' n w h h' hl hm
end Go.Proofs.Ytfjdlbilnoojkaa
/- The law's fit(g). -/
namespace Go.Proofs.Ytfjdlbilnoojkaa
open Go.RowKit

set_option maxHeartbeats 1000000 in
theorem fit20_any (W H : Int) (A : Option Addr) (n c : Nat) (w : World) :
    Calls Try.prog 28 #[.agg #[.int .i64 W, .int .i64 H, .slice A n c]] w fun e w' => e = .returned (.bool (decide (chkP W H n = 0))) ∧ Below w.heap.size w w' := by
  have S0 := (St.start w).box #[.int .i64 W, .int .i64 H, .slice A n c] 25
  simp only [List.nil_append] at S0
  have HG := Lib.hid (fun u => great_any W H A n c u)
  have HC := Lib.hid (fun u => rpcheck_any W H A n c u)
  obtain ⟨c0, c1, c2⟩ := (S0.blk 0 rfl).cell3
  by_cases hg : 4200 < n
  · have hd : decide (4200 < n) = true := decide_eq_true hg
    rw [hd] at HG
    rw [decide_eq_false (show ¬ chkP W H n = 0 from fun h => by
      obtain ⟨a, b, _, _, _, ha, _, hb, hn⟩ := chkP_zero h
      have := Nat.mul_le_mul hb ha
      omega)]
    go_enter Try.func28, Try.ntmps28
    go_wp2_with fail
    refine (HG.out _).mono ?_
    rintro e w1 ⟨rfl, hb1⟩
    go_wp2_with fail
    go_ret
    exact ⟨rfl, (S0.keep hb1).below⟩
  · have hd : decide (4200 < n) = false := decide_eq_false hg
    rw [hd] at HG
    generalize chkP W H n = K at *
    go_enter Try.func28, Try.ntmps28
    go_wp2_with fail
    refine (HG.out _).mono ?_
    rintro e w1 ⟨rfl, hb1⟩
    have S1 := S0.keep hb1
    clear c0 c1 c2
    obtain ⟨c0, c1, c2⟩ := (S1.blk 0 rfl).cell3
    go_wp2_with fail
    refine (HC.out _).mono ?_
    rintro e w2 ⟨rfl, hb2⟩
    by_cases hk : K = 0
    · subst hk
      go_wp2_with fail
      go_ret
      exact ⟨rfl, (S1.keep hb2).below⟩
    · have hkb : (K == 0) = false := by simpa using hk
      go_wp2_with fail
      go_ret
      exact ⟨by rw [decide_eq_false hk]; rfl, (S1.keep hb2).below⟩
end Go.Proofs.Ytfjdlbilnoojkaa
