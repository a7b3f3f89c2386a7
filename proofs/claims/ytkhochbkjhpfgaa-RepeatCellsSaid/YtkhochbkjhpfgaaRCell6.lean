/- raddleref06.Cell: the least cell of a grid. -/
import Derived.Test.YtkhochbkjhpfgaaROf
import Derived.Test.YtkhochbkjhpfgaaRCell
import Derived.Test.YtkhochbkjhpfgaaFill
namespace Go.Proofs.Ytkhochbkjhpfgaa
open Go.RowKit

/-- The least cell of a grid, or no cells, with the error. -/
def cellG (g : Gd) : Gd × Int := withChk g fun a b => tabG (latA a b g.bits) (latC a b g.bits) fun x y => g.bits.getD (y * a + x) false
theorem cellG_ok {a b : Nat} {bs : List Bool} (h : chk a b bs.length = 0) : cellG ⟨a, b, bs⟩ = (⟨((latA a b bs : Nat) : Int), ((latC a b bs : Nat) : Int), Pl.tab (latA a b bs) (latC a b bs) fun x y => bs.getD (y * a + x) false⟩, 0) := withChk_ok h

set_option maxHeartbeats 4000000 in
set_option maxRecDepth 100000 in
theorem rcell6_any (g : Gd) (A0 : Option Addr) (n c : Nat) (w : World) (hr : Rd w A0 n (g.bits.map Value.bool)) :
    Calls Try.prog 16 #[.agg #[.int .i64 g.w, .int .i64 g.h, .slice A0 n c]] w (RetG (cellG g) w) := by
  have lb : g.bits.length = n := by simpa using hr.len
  have S0 := (((St.start w).addRd hr).box #[.int .i64 g.w, .int .i64 g.h, .slice A0 n c] 24).box #[.int .i64 0, .int .i64 0, .slice none 0 0] 24
  simp only [size_alloc1, List.nil_append, List.cons_append] at S0
  obtain ⟨c0, c1, c2⟩ := (S0.blk 1 rfl).cell3
  by_cases h0 : chkG g = 0
  · obtain ⟨W, H, bs⟩ := g
    obtain ⟨a, b, h1, h2, ha1, ha, hbb1, hb, hl⟩ := chk_zero h0
    simp only at h1 h2 hl lb
    subst h1 h2
    have hch : chk (a : Int) (b : Int) bs.length = 0 := h0
    have hcb : (chk (a : Int) (b : Int) n != 0) = false := by rw [← lb]; simpa using hch
    obtain rfl : n = b * a := by omega
    have HC := cellG_ok hch
    have hL := lat_is (bs := bs) ha1 hbb1
    simp only at S0 c0 c1 c2 hr ⊢
    have HO := fun W h => rlat_any a b c A0 bs W ha1 hbb1 ha hb h
    obtain ⟨A, hA⟩ : ∃ q, latA a b bs = q := ⟨_, rfl⟩
    obtain ⟨B, hB⟩ : ∃ q, latB a b bs = q := ⟨_, rfl⟩
    obtain ⟨C, hC⟩ : ∃ q, latC a b bs = q := ⟨_, rfl⟩
    rw [hA, hC] at HC
    rw [hA, hB, hC] at hL
    simp only [hA, hB, hC] at HO
    have HO := Lib.hid HO
    have HR := Lib.hid HC
    have x1 := hL.a1
    have x2 := hL.a2
    have x4 := hL.c1
    have x5 := hL.c2
    have hHR := Lib.hid (fun wz (hz : Below w.heap.size w wz) => hr.below hz)
    clear h0 hch hl lb HC hL hA hB hC hr
    go_enter Try.func16, Try.ntmps16
    go_wp2_with fail
    refine (rcheck_any _ _ _ _ _ _).mono ?_
    rintro e w1 ⟨rfl, hb1⟩
    have S1 := S0.keep hb1
    clear c0 c1 c2
    obtain ⟨c0, c1, c2⟩ := (S1.blk 1 rfl).cell3
    go_wp2_with fail
    refine (HO.out _ (S1.rd 0 rfl)).mono ?_
    rintro e w2 ⟨rfl, hb2⟩
    have S2 := (S1.keep hb2).box #[.int .i64 A, .int .i64 B, .int .i64 C] 26
    simp only [List.nil_append, List.cons_append] at S2
    clear c0 c1 c2
    obtain ⟨l0, l1, l2⟩ := (S2.blk 3 rfl).cell3
    go_wp2_with fail
    refine (zero_any A C _ (by omega) (by omega)).mono ?_
    rintro e w3 ⟨A3, n3, c3, rfl, hown3, hb3⟩
    simp only at hown3 ⊢
    obtain rfl : n3 = C * A := by have := hown3.1; rw [List.length_map, List.length_replicate] at this; omega
    obtain ⟨gr, rfl, hg1, hg2, hgc⟩ := own_form hown3 (Nat.mul_pos x4 x1)
    have S3 := (S2.keep hb3).box #[.int .i64 A, .int .i64 C, .slice (some ⟨gr, 0, none⟩) (C * A) c3] 24
    simp only [List.nil_append, List.cons_append] at S3
    have hown := (own_base hown3 S2.size).alloc (.cells #[.int .i64 A, .int .i64 C, .slice (some ⟨gr, 0, none⟩) (C * A) c3] 24)
    clear l0 l1 l2
    go_wp2_with fail
    go_loopw [6] (fun i wr => ∃ (x : Nat) (l : List Bool), x ≤ A ∧ i = .int .i64 x ∧ Pl.Fill (C * A) C (fun x y => y * A + x) (fun x y => bs.getD (y * a + x) false) l x 0 ∧
        Blk wr w3.heap.size 24 #[.int .i64 A, .int .i64 C, .slice (some ⟨gr, 0, none⟩) (C * A) c3] ∧ Blk wr w2.heap.size 26 #[.int .i64 A, .int .i64 B, .int .i64 C] ∧
        Blk wr (w.heap.size + 1) 24 #[.int .i64 0, .int .i64 0, .slice none 0 0] ∧ Blk wr w.heap.size 24 #[.int .i64 a, .int .i64 b, .slice A0 (b * a) c] ∧
        wr.ownsRow w.heap.size 4 1 (.slice (some ⟨gr, 0, none⟩) (C * A) c3) (C * A) (l.map Value.bool) ∧ Below w.heap.size w wr) (fun i _ => A - (intOf i).toNat)
    case atStart => exact ⟨0, _, Nat.zero_le _, rfl, Pl.Fill.start (by simp), S3.blk 4 rfl, S3.blk 3 rfl, S3.blk 2 rfl, S3.blk 1 rfl, hown, S3.below⟩
    case round =>
      clear S0 S1 S2 S3 hown hown3
      obtain ⟨x, l, hx, rfl, hfill, hO, hLt, hR, hG, hown, hbel⟩ := hrel
      obtain ⟨l0, l1, l2⟩ := hLt.cell3
      by_cases hltx : x < A
      · go_wp2_with fail
        go_loopw [7] (fun i wr => ∃ (y : Nat) (l : List Bool), y ≤ C ∧ i = .int .i64 y ∧ Pl.Fill (C * A) C (fun x y => y * A + x) (fun x y => bs.getD (y * a + x) false) l x y ∧
            Blk wr w3.heap.size 24 #[.int .i64 A, .int .i64 C, .slice (some ⟨gr, 0, none⟩) (C * A) c3] ∧ Blk wr w2.heap.size 26 #[.int .i64 A, .int .i64 B, .int .i64 C] ∧
            Blk wr (w.heap.size + 1) 24 #[.int .i64 0, .int .i64 0, .slice none 0 0] ∧ Blk wr w.heap.size 24 #[.int .i64 a, .int .i64 b, .slice A0 (b * a) c] ∧
            wr.ownsRow w.heap.size 4 1 (.slice (some ⟨gr, 0, none⟩) (C * A) c3) (C * A) (l.map Value.bool) ∧ Below w.heap.size w wr) (fun i _ => C - (intOf i).toNat)
        case atStart => exact ⟨0, l, Nat.zero_le _, rfl, hfill, hO, hLt, hR, hG, hown, hbel⟩
        case round =>
          clear hfill hO hLt hR hG hown hbel l0 l1 l2 l
          obtain ⟨y, l, hy, rfl, hfill, hO, hLt, hR, hG, hown, hbel⟩ := hrel
          obtain ⟨l0, l1, l2⟩ := hLt.cell3
          obtain ⟨d0, d1, d2⟩ := hO.cell3
          obtain ⟨e0, e1, e2⟩ := hG.cell3
          by_cases hlt : y < C
          · have hcl := Pl.cell_lt (w := A) (h := C) hltx hlt
            have HF := Lib.hid (hfill.set (W := A) (u := bs.getD (y * a + x) false) hltx hlt hcl (fun x' y' hx' hy' e => Pl.cell_inj hltx hx' e) rfl)
            have HP : Hid (pl a b bs (x : Int) (y : Int) = bs.getD (y * a + x) false) := Lib.hid (pl_nat (by omega) (by omega))
            clear hfill hcl
            go_wp2_with fail
            go_region_held3 (fun w' => (w'.cell? ⟨w3.heap.size, 0, none⟩ = some (.int .i64 A) ∧ w'.cell? ⟨w3.heap.size, 1, none⟩ = some (.int .i64 C) ∧ w'.cell? ⟨w3.heap.size, 2, none⟩ = some (.slice (some ⟨gr, 0, none⟩) (C * A) c3)) ∧
                (w'.cell? ⟨w.heap.size, 0, none⟩ = some (.int .i64 a) ∧ w'.cell? ⟨w.heap.size, 1, none⟩ = some (.int .i64 b) ∧ w'.cell? ⟨w.heap.size, 2, none⟩ = some (.slice A0 (b * a) c)))
              (first | exact ⟨hO3.cell3, hG3.cell3⟩ | exact ⟨hO2.cell3, hG2.cell3⟩ | exact ⟨hO.drew.cell3, hG.drew.cell3⟩ | go_keep)
              (first
                | (go_at_call 34
                   refine (plane_to a b c A0 bs (x : Int) (y : Int) _ HP.out ha1 hbb1 ha hb (hHR.out _ hbel.drew)).mono ?_
                   rintro ez w5 ⟨rfl, hb5⟩
                   have hO2 := hO.drew.keep hb5
                   have hL2 := hLt.drew.keep hb5
                   have hR2 := hR.drew.keep hb5
                   have hG2 := hG.drew.keep hb5
                   have hown2 := own_below hown.drew hb5
                   have hbel2 := below_then hbel.drew hb5)
                | (go_at_call 33
                   refine (set_any A C x y w.heap.size gr c3 l C (bs.getD (y * a + x) false) _ (by omega) (by omega) hltx hlt hown2).mono ?_
                   rintro ez w6 ⟨rfl, hown3, hgr3⟩
                   have hO3 := hO2.grown hgr3 (own_blk_ne hown2 hO2 (by decide))
                   have hL3 := hL2.grown hgr3 (own_blk_ne hown2 hL2 (by decide))
                   have hR3 := hR2.grown hgr3 (own_blk_ne hown2 hR2 (by decide))
                   have hG3 := hG2.grown hgr3 (own_blk_ne hown2 hG2 (by decide))
                   have hbel3 := hbel2.grown hgr3 hbel2.size (fun k hk => (hown2.lt k hk).1))
                | fail)
            go_wp2_with fail
            go_roundw
            case rel => exact ⟨y + 1, _, by omega, by go_num, HF.out, hO3, hL3, hR3, hG3, hown3, hbel3⟩
            case measure => simp [intOf]; omega
          · obtain rfl : y = C := by omega
            go_wp2_with fail
            go_roundw
            case rel => exact ⟨x + 1, l, by omega, by go_num, hfill.col, hO, hLt, hR, hG, hown, hbel⟩
            case measure => simp [intOf]; omega
      · obtain rfl : x = A := by omega
        obtain ⟨d0, d1, d2⟩ := hO.cell3
        obtain ⟨r0, r1, r2⟩ := hR.cell3
        obtain ⟨f0, f1, f2⟩ := hR.frozen3
        obtain ⟨q0, q1, q2⟩ := (hR.set3 (.int .i64 x) (.int .i64 C) (.slice (some ⟨gr, 0, none⟩) (C * x) c3)).cell3
        go_wp2_with fail
        refine bodyPost_ret (v := .tuple #[.agg #[.int .i64 x, .int .i64 C, .slice (some ⟨gr, 0, none⟩) (C * x) c3], .int .i64 0]) (by simp [results, Try.results16, go_sem, q0, q1, q2]) rfl ?_
        refine ⟨_, C * x, c3, by rw [HR.out], ?_, below_set3 hbel (by omega) _ _ _⟩
        rw [HR.out]
        have := own_set3 hown hR (by decide) (.int .i64 x) (.int .i64 C) (.slice (some ⟨gr, 0, none⟩) (C * x) c3)
        rw [hfill.tab_] at this
        exact this
  · have hn0 : chk g.w g.h n ≠ 0 := by
      have h := h0
      unfold chkG at h
      rw [lb] at h
      exact h
    have hcb : (chk g.w g.h n != 0) = true := by simpa using hn0
    have HC : Hid (cellG g = (Gd.zero, chk g.w g.h n)) := Lib.hid (by unfold cellG; rw [withChk_bad h0]; unfold chkG; rw [lb])
    clear h0 lb hr hn0
    go_enter Try.func16, Try.ntmps16
    go_wp2_with fail
    refine (rcheck_any _ _ _ _ _ _).mono ?_
    rintro e w1 ⟨rfl, hb1⟩
    have S1 := S0.keep hb1
    clear c0 c1 c2
    obtain ⟨c0, c1, c2⟩ := (S1.blk 1 rfl).cell3
    go_wp2_with fail
    refine (rcheck_any _ _ _ _ _ _).mono ?_
    rintro e w2 ⟨rfl, hb2⟩
    have S2 := S1.keep hb2
    clear c0 c1 c2
    have hR2 := S2.blk 2 rfl
    obtain ⟨r0, r1, r2⟩ := hR2.cell3
    obtain ⟨f0, f1, f2⟩ := hR2.frozen3
    obtain ⟨q0, q1, q2⟩ := (hR2.set3 (.int .i64 0) (.int .i64 0) (.slice none 0 0)).cell3
    go_wp2_with fail
    refine bodyPost_ret (v := .tuple #[.agg #[.int .i64 0, .int .i64 0, .slice none 0 0], .int .i64 (chk g.w g.h n)]) (by simp [results, Try.results16, go_sem, q0, q1, q2]) rfl ?_
    exact bad_ret HC.out (below_set3 S2.below (by omega) _ _ _)
end Go.Proofs.Ytkhochbkjhpfgaa
