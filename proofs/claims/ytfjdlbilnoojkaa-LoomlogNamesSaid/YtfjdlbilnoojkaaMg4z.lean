/- Parts of the proof, in their order. -/
import Derived.Test.YtfjdlbilnoojkaaPicksz
import Derived.Test.YtfjdlbilnoojkaaMg3z
import Derived.Test.YtfjdlbilnoojkaaMg2z
import Derived.Outline
import Derived.IntWalk
import Derived.Test.YtfjdlbilnoojkaaGdz
import Derived.Test.YtfjdlbilnoojkaaProg
import Derived.KernelRfl
import Derived.RegionTactic
import Derived.Handy
/- raddleref20.Row: a copy of a pick. -/
namespace Go.Proofs.Ytfjdlbilnoojkaa
open Go.RowKit

set_option maxHeartbeats 2000000 in
set_option maxRecDepth 100000 in
theorem row20_any (a h y : Nat) (bs : List Bool) (A : Option Addr) (n c : Nat) (w : World) (ha1 : 1 ≤ a) (ha : a ≤ 64) (hh : h ≤ 64) (hy : y < h) (hl : bs.length = h * a) (hr : Rd w A n (bs.map Value.bool)) (hnc : n ≤ c) :
    Calls Try.prog 42 #[.agg #[.int .i64 a, .int .i64 h, .slice A n c], .int .i64 y] w fun e w' => ∃ A' c', e = .returned (.slice A' a c') ∧ w'.ownsRow w.heap.size 4 1 (.slice A' a c') a ((rowB a bs y).map Value.bool) ∧ Below w.heap.size w w' := by
  obtain ⟨i0, hi, hz0, hz1, hz2⟩ := info_parts Try.infoB
  have hn : n = h * a := by have := hr.len; simpa [hl] using this.symm
  subst hn
  have hpos : 0 < h * a := Nat.mul_pos (by omega) ha1
  obtain ⟨b, o, rfl, hb, _⟩ := hr.at_ hpos
  have S0 := ((St.start w).addRd (rd_piece hr hy)).box #[.int .i64 a, .int .i64 h, .slice (some ⟨b, o, none⟩) (h * a) c] 25
  simp only [List.nil_append, List.cons_append] at S0
  have hm1 : y * a + a ≤ h * a := by rw [← Nat.succ_mul]; exact Nat.mul_le_mul_right a hy
  have hm2 : h * a ≤ 64 * 64 := Nat.mul_le_mul hh ha
  have hm3 : (y : Int) * (a : Int) = ((y * a : Nat) : Int) := (Int.natCast_mul y a).symm
  clear hr
  generalize y * a = P at *
  generalize h * a = L at *
  generalize rowB a bs y = r at *
  obtain ⟨c0, c1, c2⟩ := (S0.blk 1 rfl).cell3
  have S1 := S0.box #[] 4
  simp only [size_alloc1, List.cons_append, List.nil_append] at S1
  have hown0 := own_of_blk (base := w.heap.size) (S1.blk 2 rfl) (by omega) (by simp)
  have hrd := S1.rd 0 rfl
  have hb1 := S1.below
  have hm4 : IntKind.i64.wrap ((y : Int) * (a : Int)) = (P : Int) := by rw [hm3]; exact wrap_small _ (by omega) (by omega)
  have hm5 : IntKind.i64.wrap ((P : Int) + (a : Int)) = ((P + a : Nat) : Int) := by rw [wrap_small _ (by omega) (by omega)]; push_cast; rfl
  go_enter Try.func42, Try.ntmps42
  go_wp2_with (at_builtin; go_loud (refine wpList_app_all _ rfl (.tmp 5) (.tmp 19) 23 rfl w.heap.size 4 i0 (.bool false) 1 Try.underlying23 hi hz0 hz1 hz2 rfl (by decide) (.slice (some ⟨w.heap.size + 1, 0, none⟩) 0 0) 0 [] rfl hown0 (some ⟨b, o + P, none⟩) a (c - P) _ (show Value.slice (some ⟨b, o + P, none⟩) (P + a - P) (c - P) = _ by rw [Nat.add_sub_cancel_left]) hrd (oneCell_bools r) (by omega) (by simp; omega) ?_))
  intro A' c' w' hown hgr
  go_wp2_with fail
  go_ret
  exact ⟨A', c', rfl, by simpa using hown, hb1.grown hgr (by simp; omega) (fun k hk => by simp [Value.ownBlock] at hk; omega)⟩
end Go.Proofs.Ytfjdlbilnoojkaa
/- math/bits.Mul of one and a small number. -/
namespace Go.Proofs.Ytfjdlbilnoojkaa
open Go.RowKit

theorem and32_all : ((List.range 65).all fun n => decide (bits .and .u64 (n : Int) 4294967295 = (n : Int))) = true := by decide +kernel
theorem and32_of {n : Nat} (h : n ≤ 64) : bits .and .u64 (n : Int) 4294967295 = (n : Int) := by
  have k := and32_all
  simp only [List.all_eq_true, List.mem_range, decide_eq_true_eq] at k
  exact k n (by omega)
theorem mul64_one (n : Nat) (w : World) (h : n ≤ 64) : Calls Try.prog 65 #[.int .u64 1, .int .u64 n] w fun e w' => e = .returned (.tuple #[.int .u64 0, .int .u64 n]) ∧ w' = w := by
  have a1 := and32_of h
  have a2 := and32_of (show 1 ≤ 64 by omega)
  have a3 := and32_of (show 0 ≤ 64 by omega)
  have b1 : bits .and .u64 1 4294967295 = 1 := a2
  have b0 : bits .and .u64 0 4294967295 = 0 := a3
  clear a2 a3
  have d1 : (n : Int) / 4294967296 = 0 := by omega
  go_enter Try.func65, Try.ntmps65
  go_wp2_with fail
  go_ret2
  exact ⟨by simp, rfl⟩
end Go.Proofs.Ytfjdlbilnoojkaa
/- Small laws for comparing grids and images. Nothing here names a function of the program. -/
namespace Go.Proofs.Ytfjdlbilnoojkaa
open Go.RowKit

/-- Two grids are equal. -/
def sameG (a b : Gd) : Bool := decide (a.w = b.w ∧ a.h = b.h ∧ a.bits = b.bits)
theorem sameG_iff {a b : Gd} : sameG a b = true ↔ a = b := by
  obtain ⟨w, h, l⟩ := a
  obtain ⟨w', h', l'⟩ := b
  simp [sameG]
theorem sameG_self (a : Gd) : sameG a a = true := sameG_iff.2 rfl
theorem sameG_not {a b : Gd} (h : ¬ (a.w = b.w ∧ a.h = b.h ∧ a.bits = b.bits)) : sameG a b = false := by simp [sameG]; intro h1 h2 h3; exact h ⟨h1, h2, h3⟩
theorem ret_b {a b : Bool} (h : a = b) : Ending.returned (.bool a) = Ending.returned (.bool b) := by rw [h]

end Go.Proofs.Ytfjdlbilnoojkaa
