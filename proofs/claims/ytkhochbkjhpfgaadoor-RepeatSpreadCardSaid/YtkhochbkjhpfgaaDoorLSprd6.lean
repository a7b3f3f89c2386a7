/- The law RepeatSpread, walked: it answers true and turns nothing that was there, for any grid. -/
import Derived.Test.YtkhochbkjhpfgaaDoorAlive6
import Derived.Test.YtkhochbkjhpfgaaDoorSprdP
import Derived.Test.YtkhochbkjhpfgaaDoorMan
import Derived.Test.YtkhochbkjhpfgaaDoorSpread
import Derived.Test.YtkhochbkjhpfgaaDoorTileA
import Derived.Test.YtkhochbkjhpfgaaDoorValid6
import Derived.Deep.RegionHeld3
import Derived.Deep.DeepMust
namespace Go.Proofs.YtkhochbkjhpfgaaDoor
open Go.RowKit

theorem spread_to {r : Gd × Int} (g : Gd) (B W H : Int) (A0 : Option Addr) (n c : Nat) (w : World) (h : spreadG g B W H = r) (hr : Rd w A0 n (g.bits.map Value.bool)) (hc : n ≤ c) :
    Calls Tryd.prog 16 #[.agg #[.int .i64 g.w, .int .i64 g.h, .slice A0 n c], .int .i64 B, .int .i64 W, .int .i64 H] w (RetG r w) := h ▸ spread_any g B W H A0 n c w hr hc
theorem tile_to {r : Gd × Int} (g : Gd) (X Y : Int) (A : Option Addr) (n c : Nat) (w : World) (h : tileG g X Y = r) (hr : Rd w A n (g.bits.map Value.bool)) :
    Calls Tryd.prog 20 #[.agg #[.int .i64 g.w, .int .i64 g.h, .slice A n c], .int .i64 X, .int .i64 Y] w (RetG r w) := h ▸ tile_any g X Y A n c w hr
theorem same_to {b : Bool} (g g2 : Gd) (h : sameG g g2 = b) (A A2 : Option Addr) (n c n2 c2 : Nat) (w : World) (hr : Rd w A n (g.bits.map Value.bool)) (hr2 : Rd w A2 n2 (g2.bits.map Value.bool)) (hn : n ≤ 1048576) :
    Calls Tryd.prog 18 #[.agg #[.int .i64 g.w, .int .i64 g.h, .slice A n c], .agg #[.int .i64 g2.w, .int .i64 g2.h, .slice A2 n2 c2]] w fun e w' => e = .returned (.bool b) ∧ Below w.heap.size w w' := h ▸ rsame_any g g2 A A2 n c n2 c2 w hr hr2 hn
/-- What a call gives that hands back a grid without an error. -/
def RetD (g : Gd) (w : World) (e : Ending) (w' : World) : Prop :=
  ∃ A n c, e = .returned (.tuple #[.agg #[.int .i64 g.w, .int .i64 g.h, .slice A n c], .int .i64 0]) ∧ w'.ownsRow w.heap.size 4 1 (.slice A n c) n (g.bits.map Value.bool) ∧ Below w.heap.size w w'
theorem tile_d {r : Gd} (g : Gd) (X Y : Int) (A : Option Addr) (n c : Nat) (w : World) (h : tileG g X Y = (r, 0)) (hr : Rd w A n (g.bits.map Value.bool)) :
    Calls Tryd.prog 20 #[.agg #[.int .i64 g.w, .int .i64 g.h, .slice A n c], .int .i64 X, .int .i64 Y] w (RetD r w) := (tile_to g X Y A n c w h hr).mono fun _ _ h => h
/-- The part of a grid, and its tiling. -/
def prtD (a : Nat) (bs : List Bool) (p q : Nat) : Gd := tabD p q fun x y => bs.getD (y * a + x) false
def tilD (a b : Nat) (bs : List Bool) (p q : Nat) : Gd := tabD (a / p * p) (b / q * q) fun x y => bs.getD (y % q * a + x % p) false
section
variable {a b p q : Nat} {bs : List Bool} (ha1 : 1 ≤ a) (hb1 : 1 ≤ b) (ha : a ≤ 64) (hb : b ≤ 64) (hl : bs.length = b * a) (hpa : p ∣ a) (hqb : q ∣ b)
include ha1 hb1 ha hb hl hpa hqb
theorem prt_is : partG ⟨a, b, bs⟩ 0 0 (p : Int) (q : Int) = (prtD a bs p q, 0) := by
  rw [gd_tab hl]
  exact part_t ha1 hb1 ha hb (Nat.pos_of_dvd_of_pos hpa ha1) (Nat.pos_of_dvd_of_pos hqb hb1) (Nat.le_of_dvd ha1 hpa) (Nat.le_of_dvd hb1 hqb)
omit hl in
theorem til_is : tileG (prtD a bs p q) ((a / p : Nat) : Int) ((b / q : Nat) : Int) = (tilD a b bs p q, 0) := by
  have hp := Nat.pos_of_dvd_of_pos hpa ha1
  have hq := Nat.pos_of_dvd_of_pos hqb hb1
  have hpl := Nat.le_of_dvd ha1 hpa
  have hql := Nat.le_of_dvd hb1 hqb
  exact tile_t hp hq (by omega) (by omega) (Nat.div_pos hpl hp) (Nat.div_pos hql hq) (Nat.div_le_div_right ha) (Nat.div_le_div_right hb)
omit hl in
theorem til_to {X Y : Int} (hX : X = ((a / p : Nat) : Int)) (hY : Y = ((b / q : Nat) : Int)) : tileG (prtD a bs p q) X Y = (tilD a b bs p q, 0) := by
  rw [hX, hY]
  exact til_is ha1 hb1 ha hb hpa hqb
omit ha hb in
theorem til_same {A B C : Nat} (h : IsLat a b bs A B C) : sameG (tilD a b bs p q) ⟨a, b, bs⟩ = (decide (p % A = 0) && decide (q % (C * (A / Nat.gcd A B)) = 0)) := by
  have k := tile_same ha1 hb1 hl h hpa hqb
  rw [← k]
  unfold sameG tilD tabD
  rw [Bool.eq_iff_iff, Bool.and_eq_true, Bool.and_eq_true, decide_eq_true_eq, decide_eq_true_eq, decide_eq_true_eq, decide_eq_true_eq]
  exact ⟨fun h => ⟨⟨h.1.symm, h.2.1.symm⟩, h.2.2⟩, fun h => ⟨h.1.1.symm, h.1.2.symm, h.2⟩⟩
omit ha1 hb1 hl in
theorem til_len : (tilD a b bs p q).bits.length ≤ 1048576 := by
  unfold tilD tabD
  rw [tabD_len, Nat.div_mul_cancel hpa, Nat.div_mul_cancel hqb]
  exact Nat.le_trans (Nat.mul_le_mul hb ha) (by decide)
end

set_option maxHeartbeats 4000000 in
set_option maxRecDepth 100000 in
theorem spread6_main (a b n c : Nat) (bs : List Bool) (A0 : Option Addr) (w : World) (ha1 : 1 ≤ a) (hb1 : 1 ≤ b) (ha : a ≤ 64) (hb : b ≤ 64) (hn : n = b * a) (hn1 : n ≤ 100) (hc : n ≤ c) (hck : chkG ⟨a, b, bs⟩ = 0)
    (hr : Rd w A0 n (bs.map Value.bool)) :
    Calls Tryd.prog 5 #[.agg #[.int .i64 a, .int .i64 b, .slice A0 n c]] w fun e w' => e = .returned (.bool true) ∧ Below w.heap.size w w' := by
  have hl : bs.length = n := by simpa using hr.len
  have hl2 : bs.length = b * a := hl.trans hn
  have hL := lat_is (bs := bs) ha1 hb1
  have HV := Lib.hid (fun A c W h => valid6_any ⟨a, b, bs⟩ A n c W h)
  have hv : valid6B ⟨a, b, bs⟩ = true := by unfold valid6B; rw [decide_eq_true_eq]; exact ⟨by show bs.length ≤ 100; omega, hck⟩
  rw [hv] at HV
  have HOf := Lib.hid (fun A c W h hc => of_any ⟨a, b, bs⟩ A n c W h hc)
  rw [ofG_ok hck] at HOf
  have HCe := Lib.hid (fun A c W h hc => cell6_any ⟨a, b, bs⟩ A n c W h hc)
  rw [cellG_ok hck] at HCe
  have HSp := Lib.hid (fun A0 n c W hr hc => spread_to _ _ _ _ A0 n c W (spread_back ha1 hb1 ha hb hl2 hL) hr hc)
  unfold tabD at HSp
  have HRe := Lib.hid (fun A c W h hc => rect_any ⟨a, b, bs⟩ A n c W h hc)
  rw [rectG_ok hck] at HRe
  have HPa := Lib.hid (fun p q (hp : p ∣ a) (hq : q ∣ b) A c W h => part_to ⟨a, b, bs⟩ 0 0 (p : Int) (q : Int) A n c W (prt_is ha1 hb1 ha hb hl2 hp hq) h)
  have HTi := Lib.hid (fun p q (hp : p ∣ a) (hq : q ∣ b) X Y (hX : X = ((a / p : Nat) : Int)) (hY : Y = ((b / q : Nat) : Int)) A n c W h => tile_d (prtD a bs p q) X Y A n c W (til_to ha1 hb1 ha hb hp hq hX hY) h)
  have HSa := Lib.hid (fun p q (hp : p ∣ a) (hq : q ∣ b) A A2 n c n2 c2 W h h2 hn => same_to (tilD a b bs p q) ⟨a, b, bs⟩ (til_same ha1 hb1 hl2 hp hq hL) A A2 n c n2 c2 W h h2 hn)
  have HTl := Lib.hid (fun p q (hp : p ∣ a) (hq : q ∣ b) => til_len (bs := bs) ha hb hp hq)
  have HS1 := Lib.hid (fun A A2 n c n2 c2 W h h2 hn => same_to ⟨a, b, bs⟩ ⟨a, b, bs⟩ (sameG_self _) A A2 n c n2 c2 W h h2 hn)
  obtain ⟨d1, d2, d3⟩ := rect_div ha1 hb1 hL
  have q1 := hL.a1
  have q2 := hL.a2
  have q3 := hL.b1
  have q4 := hL.c1
  have q5 := hL.c2
  generalize latA a b bs = A at *
  generalize latB a b bs = B at *
  generalize latC a b bs = C at *
  generalize hR : C * (A / Nat.gcd A B) = R at *
  have dR := Nat.le_of_dvd hb1 d2
  obtain ⟨L, hLd⟩ : ∃ L, (Pl.tab A C fun x y => bs.getD (y * a + x) false) = L := ⟨_, rfl⟩
  simp only [hLd] at HCe HSp
  generalize prtD a bs = P at *
  generalize tilD a b bs = T at *
  have e1 : (a : Int).tmod (A : Int) = 0 := by rw [Int.tmod_eq_emod_of_nonneg (by omega)]; exact Int.emod_eq_zero_of_dvd (Int.natCast_dvd_natCast.2 d1)
  have e1' : (a : Int) % (A : Int) = 0 := Int.emod_eq_zero_of_dvd (Int.natCast_dvd_natCast.2 d1)
  have e2 : (b : Int).tmod (R : Int) = 0 := by rw [Int.tmod_eq_emod_of_nonneg (by omega)]; exact Int.emod_eq_zero_of_dvd (Int.natCast_dvd_natCast.2 d2)
  have e2' : (b : Int) % (R : Int) = 0 := Int.emod_eq_zero_of_dvd (Int.natCast_dvd_natCast.2 d2)
  have n1 : ¬ (A : Int) = 0 := by omega
  have n2 : ¬ (R : Int) = 0 := by omega
  have S0 := ((St.start w).addRd hr).box #[.int .i64 a, .int .i64 b, .slice A0 n c] 33
  simp only [List.nil_append, List.cons_append] at S0
  have HL := Lib.hid hl
  simp only at HV HOf HCe HSp HRe
  clear hr hl hl2 hn hv hck hL hLd hR d1 d2
  obtain ⟨c0, c1, c2⟩ := (S0.blk 1 rfl).cell3
  go_enter Tryd.func5, Tryd.ntmps5
  go_wp2_with fail
  refine (HV.out _ _ _ HL.out).mono ?_
  rintro e w1 ⟨rfl, hb1'⟩
  have S1 := S0.keep hb1'
  clear S0 c0 c1 c2
  obtain ⟨c0, c1, c2⟩ := (S1.blk 1 rfl).cell3
  go_wp2_with fail
  refine (HOf.out _ _ _ (S1.rd 0 rfl) hc).mono ?_
  rintro e w2 ⟨rfl, hb2⟩
  have S2 := (S1.keep hb2).box #[.int .i64 A, .int .i64 B, .int .i64 C] 23
  simp only [List.nil_append, List.cons_append] at S2
  clear S1 c0 c1 c2
  obtain ⟨c0, c1, c2⟩ := (S2.blk 1 rfl).cell3
  go_wp2_with fail
  refine (HCe.out _ _ _ (S2.rd 0 rfl) hc).mono ?_
  rintro e w3 ⟨A3, n3, cc3, rfl, hown3, hb3⟩
  simp only at hown3 ⊢
  have hc3 := own_le hown3
  have S3 := ((S2.keep hb3).addRd (rd_of_own hown3)).box #[.int .i64 A, .int .i64 C, .slice A3 n3 cc3] 33
  simp only [List.nil_append, List.cons_append] at S3
  clear S2 c0 c1 c2 hown3
  obtain ⟨c0, c1, c2⟩ := (S3.blk 1 rfl).cell3
  obtain ⟨d0, d1, d2⟩ := (S3.blk 2 rfl).cell3
  obtain ⟨f0, f1, f2⟩ := (S3.blk 4 rfl).cell3
  go_wp2_with fail
  refine (HSp.out _ _ _ _ (S3.rd 3 rfl) hc3).mono ?_
  rintro e w4 ⟨A4, n4, cc4, rfl, hown4, hb4⟩
  simp only at hown4 ⊢
  have S4 := ((S3.keep hb4).addRd (rd_of_own hown4)).box #[.int .i64 a, .int .i64 b, .slice A4 n4 cc4] 33
  simp only [List.nil_append, List.cons_append] at S4
  obtain rfl : n = n4 := by have h1 := (S4.rd 5 rfl).len; have h2 := HL.out; simp at h1; omega
  clear S3 c0 c1 c2 d0 d1 d2 f0 f1 f2 hown4
  obtain ⟨c0, c1, c2⟩ := (S4.blk 1 rfl).cell3
  go_wp2_with fail
  refine (HRe.out _ _ _ (S4.rd 0 rfl) hc).mono ?_
  rintro e w5 ⟨rfl, hb5⟩
  have S5 := S4.keep hb5
  clear S4 c0 c1 c2
  obtain ⟨c0, c1, c2⟩ := (S5.blk 1 rfl).cell3
  obtain ⟨d0, d1, d2⟩ := (S5.blk 2 rfl).cell3
  obtain ⟨f0, f1, f2⟩ := (S5.blk 4 rfl).cell3
  obtain ⟨k0, k1, k2⟩ := (S5.blk 6 rfl).cell3
  go_wp2_with fail
  refine (HS1.out _ _ _ _ _ _ _ (S5.rd 5 rfl) (S5.rd 0 rfl) (by omega)).mono ?_
  rintro e w6 ⟨rfl, hb6⟩
  have S6 := S5.keep hb6
  clear S5 c0 c1 c2 d0 d1 d2 f0 f1 f2 k0 k1 k2
  obtain ⟨c0, c1, c2⟩ := (S6.blk 1 rfl).cell3
  go_wp2_with fail
  have HS := Lib.hid S6
  clear S6 c0 c1 c2
  go_loopw [12] (fun i wr => ∃ x : Nat, 1 ≤ x ∧ x ≤ a + 1 ∧ i = .int .i64 x ∧ Below w6.heap.size w6 wr) (fun i _ => a + 1 - (intOf i).toNat)
  case atStart => exact ⟨1, Nat.le_refl _, by omega, rfl, Below.refl _ _⟩
  case round =>
    obtain ⟨x, hx1, hx, rfl, hB⟩ := hrel
    have S := HS.out.keep hB
    obtain ⟨c0, c1, c2⟩ := (S.blk 1 rfl).cell3
    by_cases hltx : x ≤ a
    · go_wp2_with fail
      go_loopw [13] (fun i wr => ∃ y : Nat, 1 ≤ y ∧ y ≤ b + 1 ∧ i = .int .i64 y ∧ Below w6.heap.size w6 wr) (fun i _ => b + 1 - (intOf i).toNat)
      case atStart => exact ⟨1, Nat.le_refl _, by omega, rfl, hB⟩
      case round =>
        clear S hB c0 c1 c2
        obtain ⟨y, hy1, hy, rfl, hB⟩ := hrel
        have S := HS.out.keep hB
        obtain ⟨c0, c1, c2⟩ := (S.blk 1 rfl).cell3
        by_cases hlty : y ≤ b
        · have x0 : ¬ (x : Int) = 0 := by omega
          have y0 : ¬ (y : Int) = 0 := by omega
          have x0' : ¬ x = 0 := by omega
          have y0' : ¬ y = 0 := by omega
          have g1 : (a : Int).tmod (x : Int) = ((a % x : Nat) : Int) := by rw [Int.tmod_eq_emod_of_nonneg (by omega)]; exact (Int.natCast_emod _ _).symm
          have g2 : (b : Int).tmod (y : Int) = ((b % y : Nat) : Int) := by rw [Int.tmod_eq_emod_of_nonneg (by omega)]; exact (Int.natCast_emod _ _).symm
          have g3 : IntKind.i64.wrap ((a % x : Nat) : Int) = ((a % x : Nat) : Int) := by have := Nat.mod_lt a (show x > 0 by omega); exact IntWalk.i64_in _ (by omega)
          have g4 : IntKind.i64.wrap ((b % y : Nat) : Int) = ((b % y : Nat) : Int) := by have := Nat.mod_lt b (show y > 0 by omega); exact IntWalk.i64_in _ (by omega)
          by_cases hxa : a % x = 0
          · by_cases hyb : b % y = 0
            · have hp := Nat.dvd_of_mod_eq_zero hxa
              have hq := Nat.dvd_of_mod_eq_zero hyb
              have HPx := Lib.hid (fun A c W h => HPa.out x y hp hq A c W h)
              have HTx := Lib.hid (fun X Y hX hY A n c W h => HTi.out x y hp hq X Y hX hY A n c W h)
              have HSx := Lib.hid (fun A A2 n c n2 c2 W h h2 hn => HSa.out x y hp hq A A2 n c n2 c2 W h h2 hn)
              have HLx := Lib.hid (HTl.out x y hp hq)
              clear HV HOf HCe HSp HRe HPa HTi HSa HTl HS1
              generalize P x y = G1 at *
              generalize T x y = G2 at *
              rw [hxa] at g1 g3
              rw [hyb] at g2 g4
              have g5 : (a : Int).tdiv (x : Int) = ((a / x : Nat) : Int) := (Int.ofNat_tdiv a x).symm
              have g6 : (b : Int).tdiv (y : Int) = ((b / y : Nat) : Int) := (Int.ofNat_tdiv b y).symm
              have hax := Nat.div_le_self a x
              have hby := Nat.div_le_self b y
              generalize a / x = ax at *
              generalize b / y = bY at *
              have g7 : IntKind.i64.wrap (ax : Int) = (ax : Int) := IntWalk.i64_in _ (by omega)
              have g8 : IntKind.i64.wrap (bY : Int) = (bY : Int) := IntWalk.i64_in _ (by omega)
              clear hax hby hp hq
              have p1 : (x : Int).tmod (A : Int) = ((x % A : Nat) : Int) := by rw [Int.tmod_eq_emod_of_nonneg (by omega)]; exact (Int.natCast_emod _ _).symm
              have p2 : (y : Int).tmod (R : Int) = ((y % R : Nat) : Int) := by rw [Int.tmod_eq_emod_of_nonneg (by omega)]; exact (Int.natCast_emod _ _).symm
              have hxA := Nat.mod_lt x (show A > 0 by omega)
              have hyR := Nat.mod_lt y (show R > 0 by omega)
              have p3 : IntKind.i64.wrap ((x % A : Nat) : Int) = ((x % A : Nat) : Int) := IntWalk.i64_in _ (by omega)
              have p4 : IntKind.i64.wrap ((y % R : Nat) : Int) = ((y % R : Nat) : Int) := IntWalk.i64_in _ (by omega)
              generalize x % A = rx at *
              generalize y % R = ry at *
              have QB : St w6 [] wr := ⟨hB, by simp⟩
              go_wp2_with fail
              refine (HPx.out _ _ _ (S.rd 0 rfl)).mono ?_
              rintro e w8 ⟨A8, n8, cc8, rfl, hown8, hb8⟩
              simp only at hown8 ⊢
              have S8 := ((S.keep hb8).addRd (rd_of_own hown8)).box #[.int .i64 G1.w, .int .i64 G1.h, .slice A8 n8 cc8] 33
              simp only [List.nil_append, List.cons_append] at S8
              have Q8 := (QB.keep hb8).alloc (.cells #[.int .i64 G1.w, .int .i64 G1.h, .slice A8 n8 cc8] 33)
              clear S c0 c1 c2 hown8 hb8 hB QB
              obtain ⟨c0, c1, c2⟩ := (S8.blk 1 rfl).cell3
              obtain ⟨f0, f1, f2⟩ := (S8.blk 8 rfl).cell3
              go_wp2_with fail
              generalize (w8.alloc (.cells #[.int .i64 G1.w, .int .i64 G1.h, .slice A8 n8 cc8] 33)) = W at *
              have HB := (Below.refl W.heap.size W).drew
              have HBa := ((Below.refl W.heap.size W).alloc (Nat.le_refl _) (.cells #[.int .i64 0, .int .i64 0, .slice none 0 0] 33)).drew
              have hpa := (Blk.new W 33 #[.int .i64 0, .int .i64 0, .slice none 0 0]).drew
              go_region_held3 (fun w' => (w'.cell? ⟨w.heap.size, 0, none⟩ = some (.int .i64 a) ∧ w'.cell? ⟨w.heap.size, 1, none⟩ = some (.int .i64 b) ∧ w'.cell? ⟨w.heap.size, 2, none⟩ = some (.slice A0 n c)) ∧
                  (w'.cell? ⟨w8.heap.size, 0, none⟩ = some (.int .i64 G1.w) ∧ w'.cell? ⟨w8.heap.size, 1, none⟩ = some (.int .i64 G1.h) ∧ w'.cell? ⟨w8.heap.size, 2, none⟩ = some (.slice A8 n8 cc8)))
                (first | exact ⟨((S8.keep HB).blk 1 rfl).cell3, ((S8.keep HB).blk 8 rfl).cell3⟩ | exact ⟨((S8.keep HBa).blk 1 rfl).cell3, ((S8.keep HBa).blk 8 rfl).cell3⟩ | (rw [← hwe]; exact ⟨((S8.keep HE).blk 1 rfl).cell3, ((S8.keep HE).blk 8 rfl).cell3⟩) | go_keep)
                (first
                  | (go_at_call 20; ((with_reducible refine (HTx.out _ _ rfl rfl _ _ _ _ ((S8.keep HB).rd 7 rfl)).mono ?_); rintro ez wy ⟨A9, n9, cc9, rfl, hown9, hb9⟩; replace HB := below_then HB hb9; obtain ⟨we, hwe⟩ : ∃ q, q = wy.alloc (.cells #[.int .i64 G2.w, .int .i64 G2.h, .slice A9 n9 cc9] 33) := ⟨_, rfl⟩; have HE : Below W.heap.size W we := by (rw [hwe]; exact HB.alloc HB.size _)))
                  | (go_at_call 20; ((with_reducible refine (HTx.out _ _ rfl rfl _ _ _ _ ((S8.keep HBa).rd 7 rfl)).mono ?_); rintro ez wy ⟨A9, n9, cc9, rfl, hown9, hb9⟩; replace HB := below_then HBa hb9; have hp := hpa.keep hb9; obtain ⟨pc0, pc1, pc2⟩ := hp.cell3; obtain ⟨pf0, pf1, pf2⟩ := hp.frozen3; obtain ⟨we, hwe⟩ : ∃ q, q = ((wy.setCell ⟨W.heap.size, 0, none⟩ (.int .i64 G2.w)).setCell ⟨W.heap.size, 1, none⟩ (.int .i64 G2.h)).setCell ⟨W.heap.size, 2, none⟩ (.slice A9 n9 cc9) := ⟨_, rfl⟩; have HE : Below W.heap.size W we := by (rw [hwe]; exact below_set3 HB (Nat.le_refl W.heap.size) _ _ _)))
                  | fail)
              all_goals
                rw [← hwe]
                first
                | (have hP := hp.set3 (.int .i64 G2.w) (.int .i64 G2.h) (.slice A9 n9 cc9)
                   rw [← hwe] at hP
                   have hO := own_set3 hown9 hp (by decide) (.int .i64 G2.w) (.int .i64 G2.h) (.slice A9 n9 cc9)
                   rw [← hwe] at hO
                   have S9 := (S8.keep HE).addRd (rd_of_own hO)
                   have Q9 := Q8.keep HE
                   clear hwe HB HBa hpa hown9 hb9 c0 c1 c2 f0 f1 f2 hp pc0 pc1 pc2 pf0 pf1 pf2 HE hO S8 Q8
                   generalize W.heap.size = bt at *)
                | (have hP := Blk.new wy 33 #[.int .i64 G2.w, .int .i64 G2.h, .slice A9 n9 cc9]
                   rw [← hwe] at hP
                   have hO := hown9.alloc (.cells #[.int .i64 G2.w, .int .i64 G2.h, .slice A9 n9 cc9] 33)
                   rw [← hwe] at hO
                   have S9 := (S8.keep HE).addRd (rd_of_own hO)
                   have Q9 := Q8.keep HE
                   clear hwe HB HBa hpa hown9 hb9 c0 c1 c2 f0 f1 f2 HE hO S8 Q8
                   generalize wy.heap.size = bt at *)
                simp only [List.nil_append, List.cons_append] at S9
                have hn9 : n9 ≤ 1048576 := by
                  have h1 := (S9.rd 9 rfl).len
                  have h2 := HLx.out
                  simp at h1
                  omega
                have SX := S9.addBlk hP
                simp only [List.nil_append, List.cons_append] at SX
                have SD := SX.drew
                have QD := Q9.drew
                clear S9 Q9 HPx HTx HLx
                obtain ⟨c0, c1, c2⟩ := (SX.blk 1 rfl).cell3
                obtain ⟨f0, f1, f2⟩ := hP.cell3
                obtain ⟨v, hv⟩ : ∃ v, (decide (rx = 0) && decide (ry = 0)) = v := ⟨_, rfl⟩
                rw [hv] at HSx
                rcases Nat.eq_zero_or_pos rx with z1 | z1 <;> rcases Nat.eq_zero_or_pos ry with z2 | z2
                · subst z1 z2
                  have hv2 : v = true := by rw [← hv]; rfl
                  subst hv2
                  clear hv
                  go_wp2_with fail
                  go_region_held3 (fun w' => (w'.cell? ⟨w.heap.size, 0, none⟩ = some (.int .i64 a) ∧ w'.cell? ⟨w.heap.size, 1, none⟩ = some (.int .i64 b) ∧ w'.cell? ⟨w.heap.size, 2, none⟩ = some (.slice A0 n c)) ∧
                      (w'.cell? ⟨bt, 0, none⟩ = some (.int .i64 G2.w) ∧ w'.cell? ⟨bt, 1, none⟩ = some (.int .i64 G2.h) ∧ w'.cell? ⟨bt, 2, none⟩ = some (.slice A9 n9 cc9)))
                    (first | exact ⟨(SD.blk 1 rfl).cell3, (SD.blk 10 rfl).cell3⟩ | go_keep)
                    (first
                      | (go_at_call 18; ((with_reducible refine (HSx.out _ _ _ _ _ _ _ (SD.rd 9 rfl) (SD.rd 0 rfl) hn9).mono ?_); rintro ez wz ⟨rfl, hbz⟩; replace SD := SD.keep hbz; replace QD := QD.keep hbz))
                      | fail)
                  all_goals
                    go_wp2_with fail
                    go_roundw
                    case rel => exact ⟨y + 1, by omega, by omega, by go_num, QD.below⟩
                    case measure => simp [intOf]; omega
                · subst z1
                  have n5 : ¬ (ry : Int) = 0 := by omega
                  have n6 : ¬ ry = 0 := by omega
                  have hv2 : v = false := by rw [← hv, decide_eq_false n6, Bool.and_false]
                  subst hv2
                  clear hv
                  go_wp2_with fail
                  go_region_held3 (fun w' => (w'.cell? ⟨w.heap.size, 0, none⟩ = some (.int .i64 a) ∧ w'.cell? ⟨w.heap.size, 1, none⟩ = some (.int .i64 b) ∧ w'.cell? ⟨w.heap.size, 2, none⟩ = some (.slice A0 n c)) ∧
                      (w'.cell? ⟨bt, 0, none⟩ = some (.int .i64 G2.w) ∧ w'.cell? ⟨bt, 1, none⟩ = some (.int .i64 G2.h) ∧ w'.cell? ⟨bt, 2, none⟩ = some (.slice A9 n9 cc9)))
                    (first | exact ⟨(SD.blk 1 rfl).cell3, (SD.blk 10 rfl).cell3⟩ | go_keep)
                    (first
                      | (go_at_call 18; ((with_reducible refine (HSx.out _ _ _ _ _ _ _ (SD.rd 9 rfl) (SD.rd 0 rfl) hn9).mono ?_); rintro ez wz ⟨rfl, hbz⟩; replace SD := SD.keep hbz; replace QD := QD.keep hbz))
                      | fail)
                  all_goals
                    go_wp2_with fail
                    go_roundw
                    case rel => exact ⟨y + 1, by omega, by omega, by go_num, QD.below⟩
                    case measure => simp [intOf]; omega
                · subst z2
                  have n6 : ¬ rx = 0 := by omega
                  have y1 : decide ((rx : Int) = 0) = false := by simp; omega
                  have y2 : ((rx : Int) == 0) = false := by simp; omega
                  have y3 : decide (rx = 0) = false := decide_eq_false n6
                  have y4 : (rx == 0) = false := by simpa using n6
                  have hv2 : v = false := by rw [← hv, decide_eq_false n6, Bool.false_and]
                  clear n6
                  subst hv2
                  clear hv
                  go_wp2_with fail
                  refine wp_region_held_drew (S := (fun w' => (w'.cell? ⟨w.heap.size, 0, none⟩ = some (.int .i64 a) ∧ w'.cell? ⟨w.heap.size, 1, none⟩ = some (.int .i64 b) ∧ w'.cell? ⟨w.heap.size, 2, none⟩ = some (.slice A0 n c)) ∧ (w'.cell? ⟨bt, 0, none⟩ = some (.int .i64 G2.w) ∧ w'.cell? ⟨bt, 1, none⟩ = some (.int .i64 G2.h) ∧ w'.cell? ⟨bt, 2, none⟩ = some (.slice A9 n9 cc9)))) (by kernel_rfl) ?_ (fun hHeld => ?_)
                  · (try dsimp only); exact ⟨(SD.blk 1 rfl).cell3, (SD.blk 10 rfl).cell3⟩
                  refine man_take 0 149 (v := ?_) ⟨_, rfl, rfl⟩ (by kernel_rfl) (by kernel_rfl) (by kernel_rfl) (fun _ _ _ h => h) (by assumption) ?_ ?_
                  rotate_left
                  · intro oi ho; cases ho; refine ⟨by rfl, ?_⟩; intro w hSw; (try dsimp only at hSw); go_simp; try with_reducible rfl
                  (try simp only [Act.put, List.setIfInBounds_toArray, List.set_cons_zero, List.set_cons_succ])
                  refine man_take 1 150 (v := ?_) ⟨_, rfl, rfl⟩ (by kernel_rfl) (by kernel_rfl) (by kernel_rfl) (fun _ _ _ h => h) (by assumption) ?_ ?_
                  rotate_left
                  · intro oi ho; cases ho; refine ⟨by rfl, ?_⟩; intro w hSw; (try dsimp only at hSw); go_simp; try with_reducible rfl
                  (try simp only [Act.put, List.setIfInBounds_toArray, List.set_cons_zero, List.set_cons_succ])
                  refine man_take 2 151 (v := ?_) ⟨_, rfl, rfl⟩ (by kernel_rfl) (by kernel_rfl) (by kernel_rfl) (fun _ _ _ h => h) (by assumption) ?_ ?_
                  rotate_left
                  · intro oi ho; cases ho; refine ⟨by rfl, ?_⟩; intro w hSw; (try dsimp only at hSw); go_simp; try with_reducible rfl
                  (try simp only [Act.put, List.setIfInBounds_toArray, List.set_cons_zero, List.set_cons_succ])
                  refine man_take 3 152 (v := ?_) ⟨_, rfl, rfl⟩ (by kernel_rfl) (by kernel_rfl) (by kernel_rfl) (fun _ _ _ h => h) (by assumption) ?_ ?_
                  rotate_left
                  · intro oi ho; cases ho; refine ⟨by rfl, ?_⟩; intro w hSw; (try dsimp only at hSw); go_simp; try with_reducible rfl
                  (try simp only [Act.put, List.setIfInBounds_toArray, List.set_cons_zero, List.set_cons_succ])
                  refine man_take 4 153 (v := ?_) ⟨_, rfl, rfl⟩ (by kernel_rfl) (by kernel_rfl) (by kernel_rfl) (fun _ _ _ h => h) (by assumption) ?_ ?_
                  rotate_left
                  · intro oi ho; cases ho; refine ⟨by rfl, ?_⟩; intro w hSw; (try dsimp only at hSw); go_simp; try with_reducible rfl
                  (try simp only [Act.put, List.setIfInBounds_toArray, List.set_cons_zero, List.set_cons_succ])
                  refine man_take 5 154 (v := ?_) ⟨_, rfl, rfl⟩ (by kernel_rfl) (by kernel_rfl) (by kernel_rfl) (fun _ _ _ h => h) (by assumption) ?_ ?_
                  rotate_left
                  · intro oi ho; cases ho; refine ⟨by rfl, ?_⟩; intro w hSw; (try dsimp only at hSw); go_simp; try with_reducible rfl
                  (try simp only [Act.put, List.setIfInBounds_toArray, List.set_cons_zero, List.set_cons_succ])
                  refine man_take 6 155 (v := ?_) ⟨_, rfl, rfl⟩ (by kernel_rfl) (by kernel_rfl) (by kernel_rfl) (fun _ _ _ h => h) (by assumption) ?_ ?_
                  rotate_left
                  · intro oi ho; cases ho; refine ⟨by rfl, ?_⟩; intro w hSw; (try dsimp only at hSw); go_simp; try with_reducible rfl
                  (try simp only [Act.put, List.setIfInBounds_toArray, List.set_cons_zero, List.set_cons_succ])
                  refine man_take 7 156 (v := ?_) ⟨_, rfl, rfl⟩ (by kernel_rfl) (by kernel_rfl) (by kernel_rfl) (fun _ _ _ h => h) (by assumption) ?_ ?_
                  rotate_left
                  · intro oi ho; cases ho; refine ⟨by rfl, ?_⟩; intro w hSw; (try dsimp only at hSw); go_simp; try with_reducible rfl
                  (try simp only [Act.put, List.setIfInBounds_toArray, List.set_cons_zero, List.set_cons_succ])
                  refine man_take 8 157 (v := ?_) ⟨_, rfl, rfl⟩ (by kernel_rfl) (by kernel_rfl) (by kernel_rfl) (fun _ _ _ h => h) (by assumption) ?_ ?_
                  rotate_left
                  · intro oi ho; cases ho; refine ⟨by rfl, ?_⟩; intro w hSw; (try dsimp only at hSw); go_simp; try with_reducible rfl
                  (try simp only [Act.put, List.setIfInBounds_toArray, List.set_cons_zero, List.set_cons_succ])
                  refine man_take 10 159 (v := ?_) ⟨_, rfl, rfl⟩ (by kernel_rfl) (by kernel_rfl) (by kernel_rfl) (fun _ _ _ h => h) (by assumption) ?_ ?_
                  rotate_left
                  · intro oi ho; cases ho; refine ⟨by rfl, ?_⟩; intro w hSw; (try dsimp only at hSw); go_simp; try with_reducible rfl
                  (try simp only [Act.put, List.setIfInBounds_toArray, List.set_cons_zero, List.set_cons_succ])
                  refine man_take 11 160 (v := ?_) ⟨_, rfl, rfl⟩ (by kernel_rfl) (by kernel_rfl) (by kernel_rfl) (fun _ _ _ h => h) (by assumption) ?_ ?_
                  rotate_left
                  · intro oi ho; cases ho; refine ⟨by rfl, ?_⟩; intro w hSw; (try dsimp only at hSw); go_simp; try with_reducible rfl
                  (try simp only [Act.put, List.setIfInBounds_toArray, List.set_cons_zero, List.set_cons_succ])
                  refine man_take 12 161 (v := ?_) ⟨_, rfl, rfl⟩ (by kernel_rfl) (by kernel_rfl) (by kernel_rfl) (fun _ _ _ h => h) (by assumption) ?_ ?_
                  rotate_left
                  · intro oi ho; cases ho; refine ⟨by rfl, ?_⟩; intro w hSw; (try dsimp only at hSw); go_simp; try with_reducible rfl
                  (try simp only [Act.put, List.setIfInBounds_toArray, List.set_cons_zero, List.set_cons_succ])
                  refine man_take 13 162 (v := ?_) ⟨_, rfl, rfl⟩ (by kernel_rfl) (by kernel_rfl) (by kernel_rfl) (fun _ _ _ h => h) (by assumption) ?_ ?_
                  rotate_left
                  · intro oi ho; cases ho; refine ⟨by rfl, ?_⟩; intro w hSw; (try dsimp only at hSw); go_simp; try with_reducible rfl
                  (try simp only [Act.put, List.setIfInBounds_toArray, List.set_cons_zero, List.set_cons_succ])
                  refine man_run 9 rfl (by kernel_rfl) (fun K hK => ?_)
                  go_simp
                  refine (HSx.out _ _ _ _ _ _ _ (SD.rd 9 rfl) (SD.rd 0 rfl) hn9).mono ?_
                  rintro ez wz ⟨rfl, hbz⟩
                  replace SD := SD.keep hbz
                  replace QD := QD.keep hbz
                  go_wp2_with fail
                  refine hK.out _ _ ?_ (fun hHeld => ?_)
                  · (try dsimp only); exact ⟨(SD.blk 1 rfl).cell3, (SD.blk 10 rfl).cell3⟩
                  clear hK K
                  (try simp only [Act.put, List.setIfInBounds_toArray, List.set_cons_zero, List.set_cons_succ])
                  refine man_take 14 163 (v := ?_) ⟨_, rfl, rfl⟩ (by kernel_rfl) (by kernel_rfl) (by kernel_rfl) (fun _ _ _ h => h) (by assumption) ?_ ?_
                  rotate_left
                  · intro oi ho; cases ho; refine ⟨by rfl, ?_⟩; intro w hSw; (try dsimp only at hSw); go_simp; try with_reducible rfl
                  (try simp only [Act.put, List.setIfInBounds_toArray, List.set_cons_zero, List.set_cons_succ])
                  refine man_skip 15 164 ⟨_, rfl, rfl⟩ (by kernel_rfl) (by kernel_rfl) (by kernel_rfl) (fun _ _ _ h => h) (by assumption) ?_ ?_
                  · intro oi ho; cases ho; rfl
                  (try simp only [Act.put, List.setIfInBounds_toArray, List.set_cons_zero, List.set_cons_succ])
                  refine man_skip 16 165 ⟨_, rfl, rfl⟩ (by kernel_rfl) (by kernel_rfl) (by kernel_rfl) (fun _ _ _ h => h) (by assumption) ?_ ?_
                  · intro oi ho; cases ho; rfl
                  (try simp only [Act.put, List.setIfInBounds_toArray, List.set_cons_zero, List.set_cons_succ])
                  refine man_skip 17 166 ⟨_, rfl, rfl⟩ (by kernel_rfl) (by kernel_rfl) (by kernel_rfl) (fun _ _ _ h => h) (by assumption) ?_ ?_
                  · intro oi ho; cases ho; rfl
                  (try simp only [Act.put, List.setIfInBounds_toArray, List.set_cons_zero, List.set_cons_succ])
                  refine man_skip 18 167 ⟨_, rfl, rfl⟩ (by kernel_rfl) (by kernel_rfl) (by kernel_rfl) (fun _ _ _ h => h) (by assumption) ?_ ?_
                  · intro oi ho; cases ho; rfl
                  (try simp only [Act.put, List.setIfInBounds_toArray, List.set_cons_zero, List.set_cons_succ])
                  refine man_take 19 168 (v := ?_) ⟨_, rfl, rfl⟩ (by kernel_rfl) (by kernel_rfl) (by kernel_rfl) (fun _ _ _ h => h) (by assumption) ?_ ?_
                  rotate_left
                  · intro oi ho; cases ho; refine ⟨by rfl, ?_⟩; intro w hSw; (try dsimp only at hSw); go_simp; try with_reducible rfl
                  (try simp only [Act.put, List.setIfInBounds_toArray, List.set_cons_zero, List.set_cons_succ])
                  refine man_take 20 169 (v := ?_) ⟨_, rfl, rfl⟩ (by kernel_rfl) (by kernel_rfl) (by kernel_rfl) (fun _ _ _ h => h) (by assumption) ?_ ?_
                  rotate_left
                  · intro oi ho; cases ho; refine ⟨by rfl, ?_⟩; intro w hSw; (try dsimp only at hSw); go_simp; try with_reducible rfl
                  (try simp only [Act.put, List.setIfInBounds_toArray, List.set_cons_zero, List.set_cons_succ])
                  refine man_take 21 170 (v := ?_) ⟨_, rfl, rfl⟩ (by kernel_rfl) (by kernel_rfl) (by kernel_rfl) (fun _ _ _ h => h) (by assumption) ?_ ?_
                  rotate_left
                  · intro oi ho; cases ho; refine ⟨by rfl, ?_⟩; intro w hSw; (try dsimp only at hSw); go_simp; try with_reducible rfl
                  (try simp only [Act.put, List.setIfInBounds_toArray, List.set_cons_zero, List.set_cons_succ])
                  refine wpAnyH_done (by kernel_rfl) ?_ _
                  all_goals
                    go_wp2_with fail
                    go_roundw
                    case rel => exact ⟨y + 1, by omega, by omega, by go_num, QD.below⟩
                    case measure => simp [intOf]; omega
                · have n4 : ¬ rx = 0 := by omega
                  have y1 : decide ((rx : Int) = 0) = false := by simp; omega
                  have y2 : ((rx : Int) == 0) = false := by simp; omega
                  have y3 : decide (rx = 0) = false := decide_eq_false n4
                  have y4 : (rx == 0) = false := by simpa using n4
                  have hv2 : v = false := by rw [← hv, decide_eq_false n4, Bool.false_and]
                  clear n4
                  subst hv2
                  clear hv
                  go_wp2_with fail
                  refine wp_region_held_drew (S := (fun w' => (w'.cell? ⟨w.heap.size, 0, none⟩ = some (.int .i64 a) ∧ w'.cell? ⟨w.heap.size, 1, none⟩ = some (.int .i64 b) ∧ w'.cell? ⟨w.heap.size, 2, none⟩ = some (.slice A0 n c)) ∧ (w'.cell? ⟨bt, 0, none⟩ = some (.int .i64 G2.w) ∧ w'.cell? ⟨bt, 1, none⟩ = some (.int .i64 G2.h) ∧ w'.cell? ⟨bt, 2, none⟩ = some (.slice A9 n9 cc9)))) (by kernel_rfl) ?_ (fun hHeld => ?_)
                  · (try dsimp only); exact ⟨(SD.blk 1 rfl).cell3, (SD.blk 10 rfl).cell3⟩
                  refine man_take 0 149 (v := ?_) ⟨_, rfl, rfl⟩ (by kernel_rfl) (by kernel_rfl) (by kernel_rfl) (fun _ _ _ h => h) (by assumption) ?_ ?_
                  rotate_left
                  · intro oi ho; cases ho; refine ⟨by rfl, ?_⟩; intro w hSw; (try dsimp only at hSw); go_simp; try with_reducible rfl
                  (try simp only [Act.put, List.setIfInBounds_toArray, List.set_cons_zero, List.set_cons_succ])
                  refine man_take 1 150 (v := ?_) ⟨_, rfl, rfl⟩ (by kernel_rfl) (by kernel_rfl) (by kernel_rfl) (fun _ _ _ h => h) (by assumption) ?_ ?_
                  rotate_left
                  · intro oi ho; cases ho; refine ⟨by rfl, ?_⟩; intro w hSw; (try dsimp only at hSw); go_simp; try with_reducible rfl
                  (try simp only [Act.put, List.setIfInBounds_toArray, List.set_cons_zero, List.set_cons_succ])
                  refine man_take 2 151 (v := ?_) ⟨_, rfl, rfl⟩ (by kernel_rfl) (by kernel_rfl) (by kernel_rfl) (fun _ _ _ h => h) (by assumption) ?_ ?_
                  rotate_left
                  · intro oi ho; cases ho; refine ⟨by rfl, ?_⟩; intro w hSw; (try dsimp only at hSw); go_simp; try with_reducible rfl
                  (try simp only [Act.put, List.setIfInBounds_toArray, List.set_cons_zero, List.set_cons_succ])
                  refine man_take 3 152 (v := ?_) ⟨_, rfl, rfl⟩ (by kernel_rfl) (by kernel_rfl) (by kernel_rfl) (fun _ _ _ h => h) (by assumption) ?_ ?_
                  rotate_left
                  · intro oi ho; cases ho; refine ⟨by rfl, ?_⟩; intro w hSw; (try dsimp only at hSw); go_simp; try with_reducible rfl
                  (try simp only [Act.put, List.setIfInBounds_toArray, List.set_cons_zero, List.set_cons_succ])
                  refine man_take 4 153 (v := ?_) ⟨_, rfl, rfl⟩ (by kernel_rfl) (by kernel_rfl) (by kernel_rfl) (fun _ _ _ h => h) (by assumption) ?_ ?_
                  rotate_left
                  · intro oi ho; cases ho; refine ⟨by rfl, ?_⟩; intro w hSw; (try dsimp only at hSw); go_simp; try with_reducible rfl
                  (try simp only [Act.put, List.setIfInBounds_toArray, List.set_cons_zero, List.set_cons_succ])
                  refine man_take 5 154 (v := ?_) ⟨_, rfl, rfl⟩ (by kernel_rfl) (by kernel_rfl) (by kernel_rfl) (fun _ _ _ h => h) (by assumption) ?_ ?_
                  rotate_left
                  · intro oi ho; cases ho; refine ⟨by rfl, ?_⟩; intro w hSw; (try dsimp only at hSw); go_simp; try with_reducible rfl
                  (try simp only [Act.put, List.setIfInBounds_toArray, List.set_cons_zero, List.set_cons_succ])
                  refine man_take 6 155 (v := ?_) ⟨_, rfl, rfl⟩ (by kernel_rfl) (by kernel_rfl) (by kernel_rfl) (fun _ _ _ h => h) (by assumption) ?_ ?_
                  rotate_left
                  · intro oi ho; cases ho; refine ⟨by rfl, ?_⟩; intro w hSw; (try dsimp only at hSw); go_simp; try with_reducible rfl
                  (try simp only [Act.put, List.setIfInBounds_toArray, List.set_cons_zero, List.set_cons_succ])
                  refine man_take 7 156 (v := ?_) ⟨_, rfl, rfl⟩ (by kernel_rfl) (by kernel_rfl) (by kernel_rfl) (fun _ _ _ h => h) (by assumption) ?_ ?_
                  rotate_left
                  · intro oi ho; cases ho; refine ⟨by rfl, ?_⟩; intro w hSw; (try dsimp only at hSw); go_simp; try with_reducible rfl
                  (try simp only [Act.put, List.setIfInBounds_toArray, List.set_cons_zero, List.set_cons_succ])
                  refine man_take 8 157 (v := ?_) ⟨_, rfl, rfl⟩ (by kernel_rfl) (by kernel_rfl) (by kernel_rfl) (fun _ _ _ h => h) (by assumption) ?_ ?_
                  rotate_left
                  · intro oi ho; cases ho; refine ⟨by rfl, ?_⟩; intro w hSw; (try dsimp only at hSw); go_simp; try with_reducible rfl
                  (try simp only [Act.put, List.setIfInBounds_toArray, List.set_cons_zero, List.set_cons_succ])
                  refine man_take 10 159 (v := ?_) ⟨_, rfl, rfl⟩ (by kernel_rfl) (by kernel_rfl) (by kernel_rfl) (fun _ _ _ h => h) (by assumption) ?_ ?_
                  rotate_left
                  · intro oi ho; cases ho; refine ⟨by rfl, ?_⟩; intro w hSw; (try dsimp only at hSw); go_simp; try with_reducible rfl
                  (try simp only [Act.put, List.setIfInBounds_toArray, List.set_cons_zero, List.set_cons_succ])
                  refine man_take 11 160 (v := ?_) ⟨_, rfl, rfl⟩ (by kernel_rfl) (by kernel_rfl) (by kernel_rfl) (fun _ _ _ h => h) (by assumption) ?_ ?_
                  rotate_left
                  · intro oi ho; cases ho; refine ⟨by rfl, ?_⟩; intro w hSw; (try dsimp only at hSw); go_simp; try with_reducible rfl
                  (try simp only [Act.put, List.setIfInBounds_toArray, List.set_cons_zero, List.set_cons_succ])
                  refine man_take 12 161 (v := ?_) ⟨_, rfl, rfl⟩ (by kernel_rfl) (by kernel_rfl) (by kernel_rfl) (fun _ _ _ h => h) (by assumption) ?_ ?_
                  rotate_left
                  · intro oi ho; cases ho; refine ⟨by rfl, ?_⟩; intro w hSw; (try dsimp only at hSw); go_simp; try with_reducible rfl
                  (try simp only [Act.put, List.setIfInBounds_toArray, List.set_cons_zero, List.set_cons_succ])
                  refine man_take 13 162 (v := ?_) ⟨_, rfl, rfl⟩ (by kernel_rfl) (by kernel_rfl) (by kernel_rfl) (fun _ _ _ h => h) (by assumption) ?_ ?_
                  rotate_left
                  · intro oi ho; cases ho; refine ⟨by rfl, ?_⟩; intro w hSw; (try dsimp only at hSw); go_simp; try with_reducible rfl
                  (try simp only [Act.put, List.setIfInBounds_toArray, List.set_cons_zero, List.set_cons_succ])
                  refine man_run 9 rfl (by kernel_rfl) (fun K hK => ?_)
                  go_simp
                  refine (HSx.out _ _ _ _ _ _ _ (SD.rd 9 rfl) (SD.rd 0 rfl) hn9).mono ?_
                  rintro ez wz ⟨rfl, hbz⟩
                  replace SD := SD.keep hbz
                  replace QD := QD.keep hbz
                  go_wp2_with fail
                  refine hK.out _ _ ?_ (fun hHeld => ?_)
                  · (try dsimp only); exact ⟨(SD.blk 1 rfl).cell3, (SD.blk 10 rfl).cell3⟩
                  clear hK K
                  (try simp only [Act.put, List.setIfInBounds_toArray, List.set_cons_zero, List.set_cons_succ])
                  refine man_take 14 163 (v := ?_) ⟨_, rfl, rfl⟩ (by kernel_rfl) (by kernel_rfl) (by kernel_rfl) (fun _ _ _ h => h) (by assumption) ?_ ?_
                  rotate_left
                  · intro oi ho; cases ho; refine ⟨by rfl, ?_⟩; intro w hSw; (try dsimp only at hSw); go_simp; try with_reducible rfl
                  (try simp only [Act.put, List.setIfInBounds_toArray, List.set_cons_zero, List.set_cons_succ])
                  refine man_skip 15 164 ⟨_, rfl, rfl⟩ (by kernel_rfl) (by kernel_rfl) (by kernel_rfl) (fun _ _ _ h => h) (by assumption) ?_ ?_
                  · intro oi ho; cases ho; rfl
                  (try simp only [Act.put, List.setIfInBounds_toArray, List.set_cons_zero, List.set_cons_succ])
                  refine man_skip 16 165 ⟨_, rfl, rfl⟩ (by kernel_rfl) (by kernel_rfl) (by kernel_rfl) (fun _ _ _ h => h) (by assumption) ?_ ?_
                  · intro oi ho; cases ho; rfl
                  (try simp only [Act.put, List.setIfInBounds_toArray, List.set_cons_zero, List.set_cons_succ])
                  refine man_skip 17 166 ⟨_, rfl, rfl⟩ (by kernel_rfl) (by kernel_rfl) (by kernel_rfl) (fun _ _ _ h => h) (by assumption) ?_ ?_
                  · intro oi ho; cases ho; rfl
                  (try simp only [Act.put, List.setIfInBounds_toArray, List.set_cons_zero, List.set_cons_succ])
                  refine man_skip 18 167 ⟨_, rfl, rfl⟩ (by kernel_rfl) (by kernel_rfl) (by kernel_rfl) (fun _ _ _ h => h) (by assumption) ?_ ?_
                  · intro oi ho; cases ho; rfl
                  (try simp only [Act.put, List.setIfInBounds_toArray, List.set_cons_zero, List.set_cons_succ])
                  refine man_take 19 168 (v := ?_) ⟨_, rfl, rfl⟩ (by kernel_rfl) (by kernel_rfl) (by kernel_rfl) (fun _ _ _ h => h) (by assumption) ?_ ?_
                  rotate_left
                  · intro oi ho; cases ho; refine ⟨by rfl, ?_⟩; intro w hSw; (try dsimp only at hSw); go_simp; try with_reducible rfl
                  (try simp only [Act.put, List.setIfInBounds_toArray, List.set_cons_zero, List.set_cons_succ])
                  refine man_take 20 169 (v := ?_) ⟨_, rfl, rfl⟩ (by kernel_rfl) (by kernel_rfl) (by kernel_rfl) (fun _ _ _ h => h) (by assumption) ?_ ?_
                  rotate_left
                  · intro oi ho; cases ho; refine ⟨by rfl, ?_⟩; intro w hSw; (try dsimp only at hSw); go_simp; try with_reducible rfl
                  (try simp only [Act.put, List.setIfInBounds_toArray, List.set_cons_zero, List.set_cons_succ])
                  refine man_take 21 170 (v := ?_) ⟨_, rfl, rfl⟩ (by kernel_rfl) (by kernel_rfl) (by kernel_rfl) (fun _ _ _ h => h) (by assumption) ?_ ?_
                  rotate_left
                  · intro oi ho; cases ho; refine ⟨by rfl, ?_⟩; intro w hSw; (try dsimp only at hSw); go_simp; try with_reducible rfl
                  (try simp only [Act.put, List.setIfInBounds_toArray, List.set_cons_zero, List.set_cons_succ])
                  refine wpAnyH_done (by kernel_rfl) ?_ _
                  all_goals
                    go_wp2_with fail
                    go_roundw
                    case rel => exact ⟨y + 1, by omega, by omega, by go_num, QD.below⟩
                    case measure => simp [intOf]; omega
            · go_wp2_with fail
              go_roundw
              case rel => exact ⟨y + 1, by omega, by omega, by go_num, hB⟩
              case measure => simp [intOf]; omega
          · go_wp2_with fail
            all_goals
              go_roundw
              case rel => exact ⟨y + 1, by omega, by omega, by go_num, hB⟩
              case measure => simp [intOf]; omega
        · go_wp2_with fail
          go_roundw
          case rel => exact ⟨x + 1, by omega, by omega, by go_num, hB⟩
          case measure => simp [intOf]; omega
    · go_wp2_with fail
      refine (alive_any _).mono ?_
      rintro e w7 ⟨rfl, hb7⟩
      go_wp2_with fail
      go_ret
      exact ⟨rfl, (S.keep hb7).below⟩
end Go.Proofs.YtkhochbkjhpfgaaDoor
