/- repeat.Cell: the least cell of a grid. -/
import Derived.Test.YtkhochbkjhpfgaaDoorCellP
import Derived.Test.YtkhochbkjhpfgaaDoorOf
import Derived.Test.YtkhochbkjhpfgaaDoorPart
namespace Go.Proofs.YtkhochbkjhpfgaaDoor
open Go.RowKit

theorem part_to {r : Gd × Int} (g : Gd) (x y pw ph : Int) (A : Option Addr) (n c : Nat) (w : World) (h : partG g x y pw ph = r) (hr : Rd w A n (g.bits.map Value.bool)) :
    Calls Tryd.prog 19 #[.agg #[.int .i64 g.w, .int .i64 g.h, .slice A n c], .int .i64 x, .int .i64 y, .int .i64 pw, .int .i64 ph] w (RetG r w) := h ▸ part_any g x y pw ph A n c w hr
theorem part_cell {a b A C : Nat} {bs : List Bool} (h : chk a b bs.length = 0) (hA1 : 1 ≤ A) (hA : A ≤ a) (hC1 : 1 ≤ C) (hC : C ≤ b) : partG ⟨a, b, bs⟩ 0 0 A C = (⟨(A : Int), (C : Int), Pl.tab A C fun x y => bs.getD (y * a + x) false⟩, 0) := by
  unfold partG
  rw [withChk_ok h, if_neg (by omega)]
  unfold tabG
  simp

set_option maxHeartbeats 2000000 in
theorem cell6_any (g : Gd) (A0 : Option Addr) (n c : Nat) (w : World) (hr : Rd w A0 n (g.bits.map Value.bool)) (hc : n ≤ c) :
    Calls Tryd.prog 15 #[.agg #[.int .i64 g.w, .int .i64 g.h, .slice A0 n c]] w (RetG (cellG g) w) := by
  have lb : g.bits.length = n := by simpa using hr.len
  have S0 := (((St.start w).addRd hr).box #[.int .i64 g.w, .int .i64 g.h, .slice A0 n c] 33).box #[.int .i64 0, .int .i64 0, .slice none 0 0] 33
  simp only [size_alloc1, List.nil_append, List.cons_append] at S0
  obtain ⟨c0, c1, c2⟩ := (S0.blk 1 rfl).cell3
  have HO := Lib.hid (of_any g A0 n c _ (S0.rd 0 rfl) hc)
  by_cases h0 : chkG g = 0
  · obtain ⟨W, H, bs⟩ := g
    obtain ⟨a, b, h1, h2, ha1, ha, hbb1, hb, hl⟩ := chk_zero h0
    simp only at h1 h2 hl lb
    subst h1 h2
    have hch : chk (a : Int) (b : Int) bs.length = 0 := h0
    have HC := cellG_ok hch
    have hL := lat_is (bs := bs) ha1 hbb1
    have hP := part_cell (bs := bs) hch hL.a1 hL.a2 hL.c1 hL.c2
    rw [ofG_ok h0] at HO
    obtain ⟨A, hA⟩ : ∃ q, latA a b bs = q := ⟨_, rfl⟩
    obtain ⟨B, hB⟩ : ∃ q, latB a b bs = q := ⟨_, rfl⟩
    obtain ⟨C, hC⟩ : ∃ q, latC a b bs = q := ⟨_, rfl⟩
    rw [hA, hB, hC] at HO
    rw [hA, hC] at HC hP
    have HR := Lib.hid HC
    have HP := Lib.hid hP
    simp only at S0 c0 c1 c2 ⊢
    clear h0 hch hl lb HC hP hL hA hB hC hr
    go_enter Tryd.func15, Tryd.ntmps15
    go_wp2_with fail
    refine HO.out.mono ?_
    rintro e w1 ⟨rfl, hb1⟩
    have S1 := (S0.keep hb1).box #[.int .i64 A, .int .i64 B, .int .i64 C] 23
    simp only [List.nil_append, List.cons_append] at S1
    clear c0 c1 c2 HO
    obtain ⟨c0, c1, c2⟩ := (S1.blk 1 rfl).cell3
    go_wp2_with fail
    refine (part_to ⟨a, b, bs⟩ 0 0 A C _ _ _ _ HP.out (S1.rd 0 rfl)).mono ?_
    rintro e w2 ⟨A2, n2, cc, rfl, hown2, hb2⟩
    simp only at hown2 ⊢
    have S2 := S1.keep hb2
    have hR2 := S2.blk 2 rfl
    obtain ⟨r0, r1, r2⟩ := hR2.cell3
    obtain ⟨f0, f1, f2⟩ := hR2.frozen3
    obtain ⟨q0, q1, q2⟩ := (hR2.set3 (.int .i64 (A : Int)) (.int .i64 (C : Int)) (.slice A2 n2 cc)).cell3
    clear c0 c1 c2
    go_wp2_with fail
    refine bodyPost_ret (v := .tuple #[.agg #[.int .i64 (A : Int), .int .i64 (C : Int), .slice A2 n2 cc], .int .i64 0]) (by simp [results, Tryd.results15, go_sem, q0, q1, q2]) rfl ?_
    refine ⟨A2, n2, cc, by rw [HR.out], ?_, below_set3 S2.below (by omega) _ _ _⟩
    rw [HR.out]
    exact own_set3 (own_base hown2 S1.size) hR2 (by decide) _ _ _
  · have HC : Hid (cellG g = (Gd.zero, chkG g)) := Lib.hid (by unfold cellG; rw [withChk_bad h0])
    rw [ofG_bad h0] at HO
    have hcb : (chkG g != 0) = true := by simpa using h0
    clear h0 hr
    generalize chkG g = t at *
    go_enter Tryd.func15, Tryd.ntmps15
    go_wp2_with fail
    refine HO.out.mono ?_
    rintro e w1 ⟨rfl, hb1⟩
    have S1 := (S0.keep hb1).alloc (.cells #[.int .i64 0, .int .i64 0, .int .i64 0] 23)
    clear c0 c1 c2
    have hR2 := S1.blk 2 rfl
    obtain ⟨r0, r1, r2⟩ := hR2.cell3
    obtain ⟨f0, f1, f2⟩ := hR2.frozen3
    obtain ⟨q0, q1, q2⟩ := (hR2.set3 (.int .i64 0) (.int .i64 0) (.slice none 0 0)).cell3
    go_wp2_with fail
    refine bodyPost_ret (v := .tuple #[.agg #[.int .i64 0, .int .i64 0, .slice none 0 0], .int .i64 t]) (by simp [results, Tryd.results15, go_sem, q0, q1, q2]) rfl ?_
    exact bad_ret HC.out (below_set3 S1.below (by omega) _ _ _)
end Go.Proofs.YtkhochbkjhpfgaaDoor
