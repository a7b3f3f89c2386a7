/- raddleref01.Shifted gives the plane moved. -/
import Derived.Test.YtliibficmdomjaaMg13z
import Derived.Test.YtliibficmdomjaaMg11z
import Derived.Test.YtliibficmdomjaaRMirrorz
namespace Go.Proofs.Ytliibficmdomjaa
open Go.RowKit

namespace Pl
/-- Where Shifted puts the cell x of a side of a cells. -/
def sh (k : Int) (a x : Nat) : Nat := (((x : Int) + k % (a : Int)) % (a : Int)).toNat
theorem sh_int {k : Int} {a x : Nat} (ha : 1 ≤ a) : ((sh k a x : Nat) : Int) = ((x : Int) + k % (a : Int)) % (a : Int) := by
  have := Int.emod_nonneg ((x : Int) + k % (a : Int)) (show (a : Int) ≠ 0 by omega)
  unfold sh; omega
theorem sh_lt {k : Int} {a x : Nat} (ha : 1 ≤ a) : sh k a x < a := by
  have h1 := Int.emod_lt_of_pos ((x : Int) + k % (a : Int)) (show 0 < (a : Int) by omega)
  have h2 := sh_int (k := k) (x := x) ha
  omega
theorem sh_back {k : Int} {a x : Nat} (ha : 1 ≤ a) (hx : x < a) : (((sh k a x : Nat) : Int) - k) % (a : Int) = x := by
  rw [sh_int ha, Int.emod_sub_emod]
  have h1 := Int.mul_ediv_add_emod k (a : Int)
  have e : (x : Int) + k % (a : Int) - k = x + (a : Int) * (-(k / (a : Int))) := by rw [Int.mul_neg]; omega
  rw [e, Int.add_mul_emod_self_left]
  exact Int.emod_eq_of_lt (by omega) (by omega)
theorem sh_inj {k : Int} {a x x' : Nat} (ha : 1 ≤ a) (hx : x < a) (hx' : x' < a) (e : sh k a x = sh k a x') : x = x' := by
  have h1 := sh_back (k := k) ha hx
  have h2 := sh_back (k := k) ha hx'
  rw [e] at h1
  omega
theorem sh_onto {k : Int} {a t : Nat} (ha : 1 ≤ a) (ht : t < a) : (((t : Int) - k) % (a : Int)).toNat < a ∧ sh k a (((t : Int) - k) % (a : Int)).toNat = t := by
  have h1 := Int.emod_nonneg ((t : Int) - k) (show (a : Int) ≠ 0 by omega)
  have h2 := Int.emod_lt_of_pos ((t : Int) - k) (show 0 < (a : Int) by omega)
  refine ⟨by omega, ?_⟩
  have h3 := sh_int (k := k) (x := (((t : Int) - k) % (a : Int)).toNat) ha
  rw [Int.toNat_of_nonneg h1, Int.emod_add_emod, Int.add_emod_emod, Int.sub_add_cancel, Int.emod_eq_of_lt (a := (t : Int)) (b := (a : Int)) (by omega) (by omega)] at h3
  exact Int.ofNat.inj h3
theorem fill_sh {α : Type} {a b : Nat} {dx dy : Int} {G : Nat → Nat → α} {l : List α} (ha : 1 ≤ a) (hb : 1 ≤ b) (h : Fill (b * a) b (fun x y => sh dy b y * a + sh dx a x) G l a 0) :
    l = tab a b fun x y => G (((x : Int) - dx) % (a : Int)).toNat (((y : Int) - dy) % (b : Int)).toNat := tab_ext h.len fun x y hx hy => by
  have h1 := sh_onto (k := dx) ha hx
  have h2 := sh_onto (k := dy) hb hy
  have := h.get _ _ h2.1 (.inl h1.1)
  simp only [h1.2, h2.2] at this
  exact this
end Pl

set_option maxHeartbeats 4000000 in
theorem shifted_any (a b : Nat) (dx dy : Int) (bs : List Bool) (A : Option Addr) (c : Nat) (w : World) (ha1 : 1 ≤ a) (hbb : 1 ≤ b) (ha : a ≤ 64) (hb : b ≤ 64) (hr : Rd w A (b * a) (bs.map Value.bool)) :
    Calls Try.prog 37 #[.agg #[.int .i64 a, .int .i64 b, .slice A (b * a) c], .int .i64 dx, .int .i64 dy] w (RetT ⟨a, b, Pl.tab a b fun x y => bs.getD ((((y : Int) - dy) % (b : Int)).toNat * a + (((x : Int) - dx) % (a : Int)).toNat) false⟩ w) := by
  have hG0 : Blk ((w.alloc (.cells #[.int .i64 a, .int .i64 b, .slice A (b * a) c] 24)).alloc (.cells #[.int .i64 0, .int .i64 0, .slice none 0 0] 24)) w.heap.size 24 #[.int .i64 a, .int .i64 b, .slice A (b * a) c] := (Blk.new w _ _).alloc _
  have hR0 : Blk ((w.alloc (.cells #[.int .i64 a, .int .i64 b, .slice A (b * a) c] 24)).alloc (.cells #[.int .i64 0, .int .i64 0, .slice none 0 0] 24)) (w.heap.size + 1) 24 #[.int .i64 0, .int .i64 0, .slice none 0 0] := by simpa using Blk.new (w.alloc (.cells #[.int .i64 a, .int .i64 b, .slice A (b * a) c] 24)) _ _
  have hB0 : Below w.heap.size w ((w.alloc (.cells #[.int .i64 a, .int .i64 b, .slice A (b * a) c] 24)).alloc (.cells #[.int .i64 0, .int .i64 0, .slice none 0 0] 24)) := Joins.below_alloc2 w _ _
  have hG1 := hG0
  have hR1 := hR0
  have hB1 := hB0
  obtain ⟨c0, c1, c2⟩ := hG0.cell3
  have hoW := ha
  have hoH := hb
  have hoW1 := ha1
  have hoH1 := hbb
  clear hG0 hR0 hB0
  go_enter Try.func37, Try.ntmps37
  go_wp2_with fail
  refine (zero_any a b _ hoW hoH).mono ?_
  rintro e w1 ⟨A1, n1, c1', rfl, hown1, hbz⟩
  simp only at hown1 ⊢
  have hn1 : n1 = b * a := by have h1 := hown1.1; simp at h1; omega
  subst hn1
  obtain ⟨g, rfl, hg1, hg2, hgc⟩ := own_form hown1 (Nat.mul_pos hoH1 hoW1)
  have hG2 := hG1.keep hbz
  have hR2 := hR1.keep hbz
  have hB2 := below_then hB1 hbz
  have hown := own_base hown1 hB1.size
  clear c0 c1 c2 hown1 hG1 hR1 hB1 hbz
  go_wp2_with fail
  go_loopw [8] (fun i wr => ∃ (x : Nat) (l : List Bool), x ≤ a ∧ i = .int .i64 x ∧ Pl.Fill (b * a) b (fun x y => Pl.sh dy b y * a + Pl.sh dx a x) (fun x y => bs.getD (y * a + x) false) l x 0 ∧
      Blk wr w1.heap.size 24 #[.int .i64 ((a : Nat) : Int), .int .i64 ((b : Nat) : Int), .slice (some ⟨g, 0, none⟩) (b * a) c1'] ∧
      Blk wr (w.heap.size + 1) 24 #[.int .i64 0, .int .i64 0, .slice none 0 0] ∧ Blk wr w.heap.size 24 #[.int .i64 a, .int .i64 b, .slice A (b * a) c] ∧
      wr.ownsRow w.heap.size 4 1 (.slice (some ⟨g, 0, none⟩) (b * a) c1') (b * a) (l.map Value.bool) ∧ Below w.heap.size w wr)
    (fun i _ => a - (intOf i).toNat)
  case atStart => exact ⟨0, _, Nat.zero_le _, rfl, Pl.Fill.start (by simp), by simpa using Blk.new _ _ _, hR2.alloc _, hG2.alloc _, hown.alloc _, hB2.alloc hB2.size _⟩
  case round =>
    clear hown hG2 hR2
    obtain ⟨x, l, hx, rfl, hfill, hO, hR, hG, hown, hbel⟩ := hrel
    obtain ⟨d0, d1, d2⟩ := hO.cell3
    obtain ⟨c0, c1, c2⟩ := hG.cell3
    by_cases hlt : x < a
    · go_wp2_with fail
      go_loopw [9] (fun i wr => ∃ (y : Nat) (l : List Bool), y ≤ b ∧ i = .int .i64 y ∧ Pl.Fill (b * a) b (fun x y => Pl.sh dy b y * a + Pl.sh dx a x) (fun x y => bs.getD (y * a + x) false) l x y ∧
      Blk wr w1.heap.size 24 #[.int .i64 ((a : Nat) : Int), .int .i64 ((b : Nat) : Int), .slice (some ⟨g, 0, none⟩) (b * a) c1'] ∧
      Blk wr (w.heap.size + 1) 24 #[.int .i64 0, .int .i64 0, .slice none 0 0] ∧ Blk wr w.heap.size 24 #[.int .i64 a, .int .i64 b, .slice A (b * a) c] ∧
      wr.ownsRow w.heap.size 4 1 (.slice (some ⟨g, 0, none⟩) (b * a) c1') (b * a) (l.map Value.bool) ∧ Below w.heap.size w wr)
        (fun i _ => b - (intOf i).toNat)
      case atStart => exact ⟨0, l, Nat.zero_le _, rfl, hfill, hO, hR, hG, hown, hbel⟩
      case round =>
        clear hfill hO hR hG hown hbel d0 d1 d2 c0 c1 c2 l
        obtain ⟨y, l, hy, rfl, hfill, hO, hR, hG, hown, hbel⟩ := hrel
        obtain ⟨d0, d1, d2⟩ := hO.cell3
        obtain ⟨c0, c1, c2⟩ := hG.cell3
        by_cases hlty : y < b
        · have hsx : x < a := hlt
          have hsy : y < b := hlty
          have htx : Pl.sh dx a x < a := Pl.sh_lt ha1
          have hty : Pl.sh dy b y < b := Pl.sh_lt hbb
          have jx := Pl.sh_int (k := dx) (x := x) ha1
          have jy := Pl.sh_int (k := dy) (x := y) hbb
          have u1 := Int.emod_nonneg dx (show (a : Int) ≠ 0 by omega)
          have u2 := Int.emod_lt_of_pos dx (show 0 < (a : Int) by omega)
          have v1 := Int.emod_nonneg dy (show (b : Int) ≠ 0 by omega)
          have v2 := Int.emod_lt_of_pos dy (show 0 < (b : Int) by omega)
          have hf2 := hfill.set (W := a) hlt hlty (Pl.cell_lt htx hty) (fun x' y' hx' hy' e => (Pl.cell_inj htx (Pl.sh_lt ha1) e).imp (Pl.sh_inj ha1 hlt hx') (Pl.sh_inj hbb hlty hy')) rfl
          have HF := Lib.hid hf2
          clear hf2 hfill
          go_wp2_with fail
          go_region_held3 (fun w' => (w'.cell? ⟨w1.heap.size, 0, none⟩ = some (.int .i64 ((a : Nat) : Int)) ∧ w'.cell? ⟨w1.heap.size, 1, none⟩ = some (.int .i64 ((b : Nat) : Int)) ∧ w'.cell? ⟨w1.heap.size, 2, none⟩ = some (.slice (some ⟨g, 0, none⟩) (b * a) c1')) ∧
              (w'.cell? ⟨w.heap.size, 0, none⟩ = some (.int .i64 a) ∧ w'.cell? ⟨w.heap.size, 1, none⟩ = some (.int .i64 b) ∧ w'.cell? ⟨w.heap.size, 2, none⟩ = some (.slice A (b * a) c)))
            (first | exact ⟨hO3.cell3, hG3.cell3⟩ | exact ⟨hO2.cell3, hG2.cell3⟩ | exact ⟨hO.cell3, hG.cell3⟩ | go_keep)
            (first
              | (go_at_call 55
                 refine (mod_any _ _ _ (by omega) (by omega)).mono ?_
                 rintro e w2 ⟨rfl, rfl⟩)
              | (go_at_call 54
                 refine (at_int a b (x) (y) _ _ bs b A c _ ha hb hsx hsy (rfl) (rfl) (hr.below hbel.drew)).mono ?_
                 rintro e w2 ⟨rfl, hb2⟩
                 have hO2 := hO.drew.keep hb2
                 have hG2 := hG.drew.keep hb2
                 have hR2 := hR.drew.keep hb2
                 have hown2 := own_below hown.drew hb2
                 have hbel2 := below_then hbel.drew hb2)
              | (go_at_call 50
                 refine (set_int a b (Pl.sh dx a x) (Pl.sh dy b y) w.heap.size g c1' _ _ l b ((fun x y => bs.getD (y * a + x) false) x y) _ hoW hoH htx hty (by rw [i64_id (z := (x : Int) + dx % (a : Int)) (by omega) (by omega)]; exact jx.symm) (by rw [i64_id (z := (y : Int) + dy % (b : Int)) (by omega) (by omega)]; exact jy.symm) hown2).mono ?_
                 rintro e w3 ⟨rfl, hown3, hgr3⟩
                 have hO3 := hO2.grown hgr3 (own_blk_ne hown2 hO2 (by decide))
                 have hG3 := hG2.grown hgr3 (own_blk_ne hown2 hG2 (by decide))
                 have hR3 := hR2.grown hgr3 (own_blk_ne hown2 hR2 (by decide))
                 have hbel3 := hbel2.grown hgr3 hbel2.size (fun k hk => (hown2.lt k hk).1))
              | fail)
          go_wp2_with fail
          go_roundw
          case rel => exact ⟨y + 1, _, by omega, by go_num, HF.out, hO3, hR3, hG3, hown3, hbel3⟩
          case measure => simp [intOf]; omega
        · obtain hye : y = b := by omega
          rw [hye] at hfill
          go_wp2_with fail
          go_roundw
          case rel => exact ⟨x + 1, l, by omega, by go_num, hfill.col, hO, hR, hG, hown, hbel⟩
          case measure => simp [intOf]; omega
    · obtain hxe : x = a := by omega
      rw [hxe] at hfill
      obtain ⟨r0, r1, r2⟩ := hR.cell3
      obtain ⟨f0, f1, f2⟩ := hR.frozen3
      obtain ⟨q0, q1, q2⟩ := (hR.set3 (.int .i64 ((a : Nat) : Int)) (.int .i64 ((b : Nat) : Int)) (.slice (some ⟨g, 0, none⟩) (b * a) c1')).cell3
      go_wp2_with fail
      refine bodyPost_ret (v := .agg #[.int .i64 ((a : Nat) : Int), .int .i64 ((b : Nat) : Int), .slice (some ⟨g, 0, none⟩) (b * a) c1']) (by simp [results, Try.results37, go_sem, q0, q1, q2]) rfl ?_
      refine ⟨_, _, _, rfl, ?_, below_set3 hbel (by omega) _ _ _⟩
      skip
      have := own_set3 hown hR (by decide) (.int .i64 ((a : Nat) : Int)) (.int .i64 ((b : Nat) : Int)) (.slice (some ⟨g, 0, none⟩) (b * a) c1')
      rw [Pl.fill_sh ha1 hbb hfill] at this
      exact this
end Go.Proofs.Ytliibficmdomjaa
