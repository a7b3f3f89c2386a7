/- Parts of the proof, in their order. -/
import Derived.Test.YtfjdlbilnoojkaaPicksz
import Derived.Test.YtfjdlbilnoojkaaMg4z
import Derived.Test.YtfjdlbilnoojkaaMg3z
/- raddleref20.Row: a copy of a pick. -/
namespace Go.Proofs.Ytfjdlbilnoojkaa
open Go.RowKit

set_option maxHeartbeats 2000000 in
set_option maxRecDepth 100000 in
theorem row20_any (a h y : Nat) (bs : List Bool) (A : Option Addr) (n c : Nat) (w : World) (ha1 : 1 ≤ a) (ha : a ≤ 64) (hh : h ≤ 64) (hy : y < h) (hl : bs.length = h * a) (hr : Rd w A n (bs.map Value.bool)) (hnc : n ≤ c) :
    Calls Try.prog 42 #[.agg #[.int .i64 a, .int .i64 h, .slice A n c], .int .i64 y] w fun e w' => ∃ A' c', e = .returned (.slice A' a c') ∧ w'.ownsRow w.heap.size 4 1 (.slice A' a c') a ((rowB a bs y).map Value.bool) ∧ Below w.heap.size w w' := by
  obtain ⟨i0, hi, hz0, hz1, hz2⟩ := info_parts Try.infoB
  have hn : n = h * a := by have := hr.len; simpa [hl] using this.symm
  subst hn
  have hpos : 0 < h * a := Nat.mul_pos (by omega) ha1
  obtain ⟨b, o, rfl, hb, _⟩ := hr.at_ hpos
  have S0 := ((St.start w).addRd (rd_piece hr hy)).box #[.int .i64 a, .int .i64 h, .slice (some ⟨b, o, none⟩) (h * a) c] 25
  simp only [List.nil_append, List.cons_append] at S0
  have hm1 : y * a + a ≤ h * a := by rw [← Nat.succ_mul]; exact Nat.mul_le_mul_right a hy
  have hm2 : h * a ≤ 64 * 64 := Nat.mul_le_mul hh ha
  have hm3 : (y : Int) * (a : Int) = ((y * a : Nat) : Int) := (Int.natCast_mul y a).symm
  clear hr
  generalize y * a = P at *
  generalize h * a = L at *
  generalize rowB a bs y = r at *
  obtain ⟨c0, c1, c2⟩ := (S0.blk 1 rfl).cell3
  have S1 := S0.box #[] 4
  simp only [size_alloc1, List.cons_append, List.nil_append] at S1
  have hown0 := own_of_blk (base := w.heap.size) (S1.blk 2 rfl) (by omega) (by simp)
  have hrd := S1.rd 0 rfl
  have hb1 := S1.below
  have hm4 : IntKind.i64.wrap ((y : Int) * (a : Int)) = (P : Int) := by rw [hm3]; exact wrap_small _ (by omega) (by omega)
  have hm5 : IntKind.i64.wrap ((P : Int) + (a : Int)) = ((P + a : Nat) : Int) := by rw [wrap_small _ (by omega) (by omega)]; push_cast; rfl
  go_enter Try.func42, Try.ntmps42
  go_wp2_with (at_builtin; go_loud (refine wpList_app_all _ rfl (.tmp 5) (.tmp 19) 23 rfl w.heap.size 4 i0 (.bool false) 1 Try.underlying23 hi hz0 hz1 hz2 rfl (by decide) (.slice (some ⟨w.heap.size + 1, 0, none⟩) 0 0) 0 [] rfl hown0 (some ⟨b, o + P, none⟩) a (c - P) _ (show Value.slice (some ⟨b, o + P, none⟩) (P + a - P) (c - P) = _ by rw [Nat.add_sub_cancel_left]) hrd (oneCell_bools r) (by omega) (by simp; omega) ?_))
  intro A' c' w' hown hgr
  go_wp2_with fail
  go_ret
  exact ⟨A', c', rfl, by simpa using hown, hb1.grown hgr (by simp; omega) (fun k hk => by simp [Value.ownBlock] at hk; omega)⟩
end Go.Proofs.Ytfjdlbilnoojkaa
/- The law's own lifts, picks and backs: lift, pick, back. -/
namespace Go.Proofs.Ytfjdlbilnoojkaa
open Go.RowKit

/-- The lifts of two shafts, by bits. -/
def liftB (n : Int) : List Bool := [decide (n % 2 = 1), decide (n / 2 % 2 = 1)]
set_option maxHeartbeats 1000000 in
theorem llift_any (n : Int) (w : World) (h : n = 1 ∨ n = 2 ∨ n = 3) : Calls Try.prog 33 #[.int .i64 n] w fun e w' => e = .returned (.slice (some ⟨w.heap.size, 0, none⟩) 2 2) ∧ Blk w' w.heap.size 4 #[.bool (decide (n % 2 = 1)), .bool (decide (n / 2 % 2 = 1))] ∧ Below w.heap.size w w' := by
  rcases h with rfl | rfl | rfl
  all_goals
    go_enter Try.func33, Try.ntmps33
    go_wp2_with fail
    go_ret
    exact ⟨rfl, Blk.new _ _ _, below_alloc1 w _⟩
theorem liftB_own {w : World} {g base : Nat} {n : Int} (h : Blk w g 4 #[.bool (decide (n % 2 = 1)), .bool (decide (n / 2 % 2 = 1))]) (hb : base ≤ g) : w.ownsRow base 4 1 (.slice (some ⟨g, 0, none⟩) 2 2) 2 ((liftB n).map Value.bool) := own_of_blk h hb (by simp [maxLen])
set_option maxHeartbeats 1000000 in
theorem lpick_any (n : Int) (w : World) (h : n = 1 ∨ n = 2 ∨ n = 3) : Calls Try.prog 32 #[.int .i64 n] w fun e w' => ∃ g, e = .returned (.agg #[.int .u8 1, .slice (some ⟨g, 0, none⟩) 2 2]) ∧ Rd w' (some ⟨g, 0, none⟩) 2 ((liftB n).map Value.bool) ∧ Below w.heap.size w w' := by
  have S0 := (St.start w).box #[.int .u8 0, .slice none 0 0] 59
  simp only [List.nil_append] at S0
  have HL := Lib.hid (fun u => llift_any n u h)
  go_enter Try.func32, Try.ntmps32
  go_wp2_with fail
  refine (HL.out _).mono ?_
  rintro e w1 ⟨rfl, hB, hb1⟩
  have S1 := S0.keep hb1
  have hR := rd_of_own (liftB_own (n := n) hB (Nat.le_refl _))
  obtain ⟨g, hg⟩ : ∃ g, g = w.heap.size + 1 := ⟨_, rfl⟩
  have hne : g ≠ w.heap.size := by omega
  rw [size_alloc1, ← hg] at hR
  have r0 := (S1.blk 0 rfl).cell 0
  have r1 := (S1.blk 0 rfl).cell 1
  have f0 := (S1.blk 0 rfl).frozen 0
  have f1 := (S1.blk 0 rfl).frozen 1
  have hb2 := ((S1.below).setCell (p := ⟨w.heap.size, 0, none⟩) (Nat.le_refl _) (.int .u8 1)).setCell (p := ⟨w.heap.size, 1, none⟩) (Nat.le_refl _) (.slice (some ⟨g, 0, none⟩) 2 2)
  have hS2 : Blk ((w1.setCell ⟨w.heap.size, 0, none⟩ (.int .u8 1)).setCell ⟨w.heap.size, 1, none⟩ (.slice (some ⟨g, 0, none⟩) 2 2)) w.heap.size 59 #[.int .u8 1, .slice (some ⟨g, 0, none⟩) 2 2] := by simpa using ((S1.blk 0 rfl).set_ 0 (.int .u8 1)).set_ 1 (.slice (some ⟨g, 0, none⟩) 2 2)
  have hR2 := (hR.far (p := ⟨w.heap.size, 0, none⟩) (fun b o hA _ => by injection hA with hA; injection hA with hA1 _; subst hA1; exact hne) (.int .u8 1)).far (p := ⟨w.heap.size, 1, none⟩) (fun b o hA _ => by injection hA with hA; injection hA with hA1 _; subst hA1; exact hne) (.slice (some ⟨g, 0, none⟩) 2 2)
  have q0 := hS2.cell 0
  have q1 := hS2.cell 1
  go_wp2_with fail
  rw [← hg]
  refine bodyPost_ret (v := .agg #[.int .u8 1, .slice (some ⟨g, 0, none⟩) 2 2]) (by simp [results, Try.results32, go_sem, q0, q1]) rfl ?_
  exact ⟨g, rfl, hR2, hb2⟩
set_option maxHeartbeats 1000000 in
theorem lback_any (w : World) : Calls Try.prog 31 #[] w fun e w' => e = .returned (.agg #[.int .u8 2, .slice none 0 0]) ∧ Below w.heap.size w w' := by
  have hB := Blk.new w 59 #[.int .u8 2, .slice none 0 0]
  have q0 := hB.cell 0
  have q1 := hB.cell 1
  go_enter Try.func31, Try.ntmps31
  go_wp2_with fail
  refine bodyPost_ret (v := .agg #[.int .u8 2, .slice none 0 0]) (by simp [results, Try.results31, go_sem, q0, q1]) rfl ?_
  exact ⟨rfl, below_alloc1 w _⟩
end Go.Proofs.Ytfjdlbilnoojkaa
