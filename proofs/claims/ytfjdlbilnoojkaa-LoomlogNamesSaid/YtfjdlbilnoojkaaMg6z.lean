/- Parts of the proof, in their order. -/
import Derived.Test.YtfjdlbilnoojkaaMg3z
import Derived.Test.YtfjdlbilnoojkaaPicksz
import Derived.Test.YtfjdlbilnoojkaaCommonz
/- The law's own lifts, picks and backs: lift, pick, back. -/
namespace Go.Proofs.Ytfjdlbilnoojkaa
open Go.RowKit

/-- The lifts of two shafts, by bits. -/
def liftB (n : Int) : List Bool := [decide (n % 2 = 1), decide (n / 2 % 2 = 1)]
set_option maxHeartbeats 1000000 in
theorem llift_any (n : Int) (w : World) (h : n = 1 ∨ n = 2 ∨ n = 3) : Calls Try.prog 33 #[.int .i64 n] w fun e w' => e = .returned (.slice (some ⟨w.heap.size, 0, none⟩) 2 2) ∧ Blk w' w.heap.size 4 #[.bool (decide (n % 2 = 1)), .bool (decide (n / 2 % 2 = 1))] ∧ Below w.heap.size w w' := by
  rcases h with rfl | rfl | rfl
  all_goals
    go_enter Try.func33, Try.ntmps33
    go_wp2_with fail
    go_ret
    exact ⟨rfl, Blk.new _ _ _, below_alloc1 w _⟩
theorem liftB_own {w : World} {g base : Nat} {n : Int} (h : Blk w g 4 #[.bool (decide (n % 2 = 1)), .bool (decide (n / 2 % 2 = 1))]) (hb : base ≤ g) : w.ownsRow base 4 1 (.slice (some ⟨g, 0, none⟩) 2 2) 2 ((liftB n).map Value.bool) := own_of_blk h hb (by simp [maxLen])
set_option maxHeartbeats 1000000 in
theorem lpick_any (n : Int) (w : World) (h : n = 1 ∨ n = 2 ∨ n = 3) : Calls Try.prog 32 #[.int .i64 n] w fun e w' => ∃ g, e = .returned (.agg #[.int .u8 1, .slice (some ⟨g, 0, none⟩) 2 2]) ∧ Rd w' (some ⟨g, 0, none⟩) 2 ((liftB n).map Value.bool) ∧ Below w.heap.size w w' := by
  have S0 := (St.start w).box #[.int .u8 0, .slice none 0 0] 59
  simp only [List.nil_append] at S0
  have HL := Lib.hid (fun u => llift_any n u h)
  go_enter Try.func32, Try.ntmps32
  go_wp2_with fail
  refine (HL.out _).mono ?_
  rintro e w1 ⟨rfl, hB, hb1⟩
  have S1 := S0.keep hb1
  have hR := rd_of_own (liftB_own (n := n) hB (Nat.le_refl _))
  obtain ⟨g, hg⟩ : ∃ g, g = w.heap.size + 1 := ⟨_, rfl⟩
  have hne : g ≠ w.heap.size := by omega
  rw [size_alloc1, ← hg] at hR
  have r0 := (S1.blk 0 rfl).cell 0
  have r1 := (S1.blk 0 rfl).cell 1
  have f0 := (S1.blk 0 rfl).frozen 0
  have f1 := (S1.blk 0 rfl).frozen 1
  have hb2 := ((S1.below).setCell (p := ⟨w.heap.size, 0, none⟩) (Nat.le_refl _) (.int .u8 1)).setCell (p := ⟨w.heap.size, 1, none⟩) (Nat.le_refl _) (.slice (some ⟨g, 0, none⟩) 2 2)
  have hS2 : Blk ((w1.setCell ⟨w.heap.size, 0, none⟩ (.int .u8 1)).setCell ⟨w.heap.size, 1, none⟩ (.slice (some ⟨g, 0, none⟩) 2 2)) w.heap.size 59 #[.int .u8 1, .slice (some ⟨g, 0, none⟩) 2 2] := by simpa using ((S1.blk 0 rfl).set_ 0 (.int .u8 1)).set_ 1 (.slice (some ⟨g, 0, none⟩) 2 2)
  have hR2 := (hR.far (p := ⟨w.heap.size, 0, none⟩) (fun b o hA _ => by injection hA with hA; injection hA with hA1 _; subst hA1; exact hne) (.int .u8 1)).far (p := ⟨w.heap.size, 1, none⟩) (fun b o hA _ => by injection hA with hA; injection hA with hA1 _; subst hA1; exact hne) (.slice (some ⟨g, 0, none⟩) 2 2)
  have q0 := hS2.cell 0
  have q1 := hS2.cell 1
  go_wp2_with fail
  rw [← hg]
  refine bodyPost_ret (v := .agg #[.int .u8 1, .slice (some ⟨g, 0, none⟩) 2 2]) (by simp [results, Try.results32, go_sem, q0, q1]) rfl ?_
  exact ⟨g, rfl, hR2, hb2⟩
set_option maxHeartbeats 1000000 in
theorem lback_any (w : World) : Calls Try.prog 31 #[] w fun e w' => e = .returned (.agg #[.int .u8 2, .slice none 0 0]) ∧ Below w.heap.size w w' := by
  have hB := Blk.new w 59 #[.int .u8 2, .slice none 0 0]
  have q0 := hB.cell 0
  have q1 := hB.cell 1
  go_enter Try.func31, Try.ntmps31
  go_wp2_with fail
  refine bodyPost_ret (v := .agg #[.int .u8 2, .slice none 0 0]) (by simp [results, Try.results31, go_sem, q0, q1]) rfl ?_
  exact ⟨rfl, below_alloc1 w _⟩
end Go.Proofs.Ytfjdlbilnoojkaa
/- loomlog.same: whether two lists of picks are equal. -/
namespace Go.Proofs.Ytfjdlbilnoojkaa
open Go.RowKit

theorem ret_s20 {a b : Bool} (h : a = b) : Ending.returned (.bool a) = Ending.returned (.bool b) := by rw [h]
set_option maxHeartbeats 2000000 in
theorem same20_any (a b : List (List Bool)) (A B : Option Addr) (na nb ca cb : Nat) (w : World) (hna : a.length = na) (hnb : b.length = nb) (ha : LRB w A a) (hb : LRB w B b) (hla : ∀ r ∈ a, r.length ≤ 64) (h1 : na ≤ 1000) :
    Calls Try.prog 45 #[.slice A na ca, .slice B nb cb] w fun e w' => e = .returned (.bool (decide (a = b))) ∧ Below w.heap.size w w' := by
  by_cases hn : na = nb
  · subst hn
    have HC := Lib.hid (common_any a b A B na na ca cb w hna hnb ha hb hla h1)
    have HS := Lib.hid (show decide (a = b) = decide (comL a b = na) from decide_eq_decide.2 (by rw [← com_same (hna.trans hnb.symm), hna]))
    have hle := (com_le a b).1
    rw [hna] at hle
    clear hna hnb ha hb hla
    generalize comL a b = k at *
    generalize decide (a = b) = d at *
    go_enter Try.func45, Try.ntmps45
    go_wp2_with fail
    refine HC.out.mono ?_
    rintro e w1 ⟨rfl, m, rfl⟩
    by_cases hk : k = na
    · have hkb : ((k : Int) == (na : Int)) = true := by simp [hk]
      rw [decide_eq_true hk] at HS
      have HS2 := Lib.hid HS.out
      clear hk
      go_wp2_with fail
      go_ret
      exact ⟨ret_s20 HS2.out.symm, below_drewN (Below.refl _ _) m⟩
    · have hkb : ((k : Int) == (na : Int)) = false := by simp; omega
      rw [decide_eq_false hk] at HS
      have HS2 := Lib.hid HS.out
      clear hk
      go_wp2_with fail
      go_ret
      exact ⟨ret_s20 HS2.out.symm, below_drewN (Below.refl _ _) m⟩
  · have hkb : ((na : Int) == (nb : Int)) = false := by simp; omega
    have HS := Lib.hid (show decide (a = b) = false from decide_eq_false (fun e => hn (by rw [← hna, ← hnb, e])))
    go_enter Try.func45, Try.ntmps45
    go_wp2_with fail
    go_ret
    exact ⟨ret_s20 HS.out.symm, Below.refl _ _⟩
end Go.Proofs.Ytfjdlbilnoojkaa
