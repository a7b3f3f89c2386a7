/- Parts of the proof, in their order. -/
import Derived.Test.YtliibficmdomjaaDoorMg1z
import Derived.Test.YtliibficmdomjaaDoorProg
import Derived.KernelRfl
/- Arguments of the program's own types, opened. -/
namespace Go.Proofs.YtliibficmdomjaaDoor
open Go.RowKit Go.ChangeShapes Go.WideShapes Go.Joins

theorem Tryd.cellsGrid : Tryd.prog.cellsOf 24 = 3 := by kernel_rfl
theorem Tryd.cellsBool : Tryd.prog.cellsOf 4 = 1 := by kernel_rfl

/-- An int64 that came in is in its range. -/
theorem wf_range {n : Int} (h : (Lit.int .i64 n).wf = true) : -9223372036854775808 ≤ n ∧ n ≤ 9223372036854775807 := by
  have hmin : IntKind.i64.min = -9223372036854775808 := rfl
  have hmax : IntKind.i64.max = 9223372036854775807 := rfl
  simp only [Lit.wf, Bool.and_eq_true, decide_eq_true_eq] at h
  omega

set_option maxRecDepth 100000 in
theorem open_grid {H : Type} {enc : TypeId × Value → H} {W : World} {base : Nat} {v : Value} {d : DataW H} {p : List MemPlace}
    (hv : Value.okWide Tryd.prog W .any base 24 v) (h : DataW.Trod enc Tryd.prog W 0 (fun _ => true) true 24 v d p) :
    ∃ (g : Gd) (A : Option Addr) (n c : Nat), v = .agg #[.int .i64 g.w, .int .i64 g.h, .slice A n c] ∧ Rd W A n (g.bits.map Value.bool) ∧ n ≤ c ∧ c ≤ maxLen ∧
      (-9223372036854775808 ≤ g.w ∧ g.w ≤ 9223372036854775807) ∧ (-9223372036854775808 ≤ g.h ∧ g.h ≤ 9223372036854775807) := by
  obtain ⟨v0, v1, v2, y0, y1, y2, m, rfl, _, _, h0, h1, h2⟩ := open_agg3 Tryd.underlying24 (by kernel_rfl) Tryd.cellsGrid hv h
  obtain ⟨a, e0, _, wa⟩ := DataW.trod_int Tryd.underlying3 h0
  obtain ⟨b, e1, _, wb⟩ := DataW.trod_int Tryd.underlying3 h1
  obtain ⟨A, n, c, bs, rfl, hn, hc, hr⟩ := rd_bools Tryd.underlying22 Tryd.underlying4 Tryd.cellsBool h2
  simp only [List.cons.injEq, and_true] at e0 e1
  subst e0 e1
  exact ⟨⟨a, b, bs⟩, A, n, c, rfl, hr, hn, hc, wf_range wa, wf_range wb⟩

end Go.Proofs.YtliibficmdomjaaDoor
/- Plain results of the operations that move cells, and small facts on cells. No program in sight. -/
namespace Go.Proofs.YtliibficmdomjaaDoor
open Go.RowKit

/-- Facts on one cell of a grid that came in or that was made: the index, its bounds, what lies there. -/
theorem idx_bounds {a b x y : Nat} (ha : a ≤ 64) (hb : b ≤ 64) (hx : x < a) (hy : y < b) :
    0 ≤ (y : Int) * (a : Int) ∧ (y : Int) * (a : Int) ≤ 4096 ∧ (y : Int) * (a : Int) + (x : Int) < ((b * a : Nat) : Int) := by
  have h1 := Pl.cell_lt (w := a) (h := b) hx hy
  have h2 : b * a ≤ 64 * 64 := Nat.mul_le_mul hb ha
  have e : (y : Int) * (a : Int) = ((y * a : Nat) : Int) := (Int.natCast_mul y a).symm
  rw [e]
  omega

theorem bad_ret {r : Gd × Int} {k : Int} (h : r = (Gd.zero, k)) {w w' : World} (hb : Below w.heap.size w w') :
    RetG r w (.returned (.tuple #[.agg #[.int .i64 0, .int .i64 0, .slice none 0 0], .int .i64 k])) w' := by
  subst h
  exact ⟨none, 0, 0, rfl, World.ownsRow_nil _ _ _ _, hb⟩

/-- A cell that is read: its index in the grid, and what lies there. -/
theorem cell_read {w : World} {bl o i n : Nat} {bs : List Bool} (hl : bs.length = n) (hi : i < n)
    (hc : ∀ j u, (bs.map Value.bool)[j]? = some u → w.cell? ⟨bl, o + j, none⟩ = some u) : w.cell? ⟨bl, o + i, none⟩ = some (.bool (bs.getD i false)) := by
  refine hc i _ ?_
  rw [List.getElem?_map, List.getElem?_eq_getElem (by omega)]
  simp [List.getD, show i < bs.length by omega]
theorem mul_bound {p q : Int} (h1 : 0 ≤ p) (h2 : p ≤ 64) (h3 : 0 ≤ q) (h4 : q ≤ 64) : 0 ≤ p * q ∧ p * q ≤ 4096 :=
  ⟨Int.mul_nonneg h1 h3, Int.mul_le_mul (c := 64) (d := 64) h2 h4 h3 (by omega)⟩

/-- What is made of a grid without an error. -/
def withChk (g : Gd) (k : Nat → Nat → Gd × Int) : Gd × Int := if chkG g = 0 then k g.w.toNat g.h.toNat else (Gd.zero, chkG g)
theorem withChk_ok {bs : List Bool} {a b : Nat} {k : Nat → Nat → Gd × Int} (h : chk a b bs.length = 0) : withChk ⟨a, b, bs⟩ k = k a b := by
  unfold withChk; rw [if_pos (show chkG ⟨a, b, bs⟩ = 0 from h)]; simp
theorem withChk_bad {g : Gd} (h : chkG g ≠ 0) (k : Nat → Nat → Gd × Int) : withChk g k = (Gd.zero, chkG g) := if_neg h
def errG (k : Int) : Gd × Int := (Gd.zero, k)
def tabG (a b : Nat) (F : Nat → Nat → Bool) : Gd × Int := (⟨a, b, Pl.tab a b F⟩, 0)

def turnG (g : Gd) : Gd × Int := withChk g fun a b => tabG b a fun x y => g.bits.getD (x * a + y) false
def mirG (g : Gd) (axis : Int) : Gd × Int := withChk g fun a b =>
  if axis = 0 then tabG a b fun x y => g.bits.getD (y * a + (a - 1 - x)) false
  else if axis = 1 then tabG a b fun x y => g.bits.getD ((b - 1 - y) * a + x) false
  else errG 2
def tileG (g : Gd) (nx ny : Int) : Gd × Int := withChk g fun a b =>
  if nx < 1 ∨ ny < 1 then errG 2
  else if 64 / (a : Int) < nx ∨ 64 / (b : Int) < ny then errG 4
  else tabG (nx.toNat * a) (ny.toNat * b) fun x y => g.bits.getD (y % b * a + x % a) false
def partG (g : Gd) (x y w h : Int) : Gd × Int := withChk g fun a b =>
  if x < 0 ∨ y < 0 ∨ w < 1 ∨ h < 1 ∨ (a : Int) < w ∨ (b : Int) < h ∨ (a : Int) - w < x ∨ (b : Int) - h < y then errG 2
  else tabG w.toNat h.toNat fun i k => g.bits.getD ((y.toNat + k) * a + x.toNat + i) false
def shiftG (g : Gd) (dx dy : Int) : Gd × Int := withChk g fun a b =>
  tabG a b fun x y => g.bits.getD ((((y : Int) - dy) % (b : Int)).toNat * a + (((x : Int) - dx) % (a : Int)).toNat) false


end Go.Proofs.YtliibficmdomjaaDoor
/- The operations of layer 1 on tables. No program in sight. -/
namespace Go.Proofs.YtliibficmdomjaaDoor
open Go.RowKit

/-- A grid by its cells. -/
def tabD (a b : Nat) (F : Nat → Nat → Bool) : Gd := ⟨a, b, Pl.tab a b F⟩
theorem gd_tab {a b : Nat} {bs : List Bool} (hl : bs.length = b * a) : (⟨a, b, bs⟩ : Gd) = tabD a b fun x y => bs.getD (y * a + x) false := by
  unfold tabD
  rw [← Pl.tab_self hl]
section
variable {a b : Nat} {F F' : Nat → Nat → Bool}
theorem tabD_congr (h : ∀ x y, x < a → y < b → F x y = F' x y) : tabD a b F = tabD a b F' := by
  unfold tabD
  rw [Pl.tab_congr h]
theorem tabD_get {x y : Nat} (hx : x < a) (hy : y < b) : (Pl.tab a b F).getD (y * a + x) false = F x y := by
  rw [List.getD_eq_getElem?_getD, Pl.tab_get hx hy, Option.getD_some]
theorem tabD_len : (Pl.tab a b F).length = b * a := Pl.tab_length
section
variable (ha1 : 1 ≤ a) (hb1 : 1 ≤ b) (ha : a ≤ 64) (hb : b ≤ 64)
include ha1 hb1 ha hb
theorem tabD_chk' : chk (a : Int) (b : Int) (Pl.tab a b F).length = 0 := chk_ok (by omega) (by omega) (by omega) (by omega) (by rw [tabD_len, Int.natCast_mul, Int.mul_comm])
theorem tabD_chk : chkG (tabD a b F) = 0 := tabD_chk' ha1 hb1 ha hb
theorem turn_t : turnG (tabD a b F) = (tabD b a (fun x y => F y x), 0) := by
  unfold turnG tabD
  rw [withChk_ok (tabD_chk' ha1 hb1 ha hb)]
  unfold tabG
  rw [Pl.tab_congr (g := fun x y => F y x)]
  intro x y hx hy
  exact tabD_get hy hx
theorem mir0_t : mirG (tabD a b F) 0 = (tabD a b (fun x y => F (a - 1 - x) y), 0) := by
  unfold mirG tabD
  rw [withChk_ok (tabD_chk' ha1 hb1 ha hb), if_pos rfl]
  unfold tabG
  rw [Pl.tab_congr (g := fun x y => F (a - 1 - x) y)]
  intro x y hx hy
  exact tabD_get (by omega) hy
theorem mir1_t : mirG (tabD a b F) 1 = (tabD a b (fun x y => F x (b - 1 - y)), 0) := by
  unfold mirG tabD
  rw [withChk_ok (tabD_chk' ha1 hb1 ha hb), if_neg (by decide), if_pos rfl]
  unfold tabG
  rw [Pl.tab_congr (g := fun x y => F x (b - 1 - y))]
  intro x y hx hy
  exact tabD_get hx (by omega)
theorem shift_t (dx dy : Int) : shiftG (tabD a b F) dx dy = (tabD a b (fun x y => F (((x : Int) - dx) % (a : Int)).toNat (((y : Int) - dy) % (b : Int)).toNat), 0) := by
  unfold shiftG tabD
  rw [withChk_ok (tabD_chk' ha1 hb1 ha hb)]
  unfold tabG
  rw [Pl.tab_congr (g := fun x y => F (((x : Int) - dx) % (a : Int)).toNat (((y : Int) - dy) % (b : Int)).toNat)]
  intro x y hx hy
  have u1 := Int.emod_nonneg ((x : Int) - dx) (show (a : Int) ≠ 0 by omega)
  have u2 := Int.emod_lt_of_pos ((x : Int) - dx) (show 0 < (a : Int) by omega)
  have v1 := Int.emod_nonneg ((y : Int) - dy) (show (b : Int) ≠ 0 by omega)
  have v2 := Int.emod_lt_of_pos ((y : Int) - dy) (show 0 < (b : Int) by omega)
  exact tabD_get (by omega) (by omega)
theorem not_t : notG (tabD a b F) = (tabD a b (fun x y => !F x y), 0) := by
  rw [notG_ok (tabD_chk ha1 hb1 ha hb)]
  unfold tabD
  rw [Pl.tab_map]
theorem join_t (p : Bool → Bool → Bool) : joinG p (tabD a b F) (tabD a b F') = (tabD a b (fun x y => p (F x y) (F' x y)), 0) := by
  have h : bothG (tabD a b F) (tabD a b F') = 0 := by
    unfold bothG
    rw [if_neg (by rw [tabD_chk ha1 hb1 ha hb]; simp), if_neg (by rw [tabD_chk ha1 hb1 ha hb]; simp), if_neg (by simp [tabD])]
  rw [joinG_ok h]
  unfold tabD
  simp only
  rw [Pl.zip_tab false false tabD_len tabD_len]
  rw [Pl.tab_congr (g := fun x y => p (F x y) (F' x y))]
  intro x y hx hy
  rw [tabD_get hx hy, tabD_get hx hy]
end
end
/-! GridExchange. -/
/-- A remainder, from the other end. -/
theorem mod_flip {a x : Nat} {d : Int} (hx : x < a) : (((a - 1 - x : Nat) : Int) - d) % (a : Int) = ((a - 1 - (((x : Int) - (-d)) % (a : Int)).toNat : Nat) : Int) := by
  have u1 := Int.emod_nonneg ((x : Int) - -d) (show (a : Int) ≠ 0 by omega)
  have u2 := Int.emod_lt_of_pos ((x : Int) - -d) (show 0 < (a : Int) by omega)
  have e1 : ((a - 1 - (((x : Int) - (-d)) % (a : Int)).toNat : Nat) : Int) = (a : Int) - 1 - ((x : Int) - -d) % (a : Int) := by omega
  have hd := Int.emod_add_mul_ediv ((x : Int) - -d) (a : Int)
  have e2 : ((a - 1 - x : Nat) : Int) - d = ((a : Int) - 1 - ((x : Int) - -d) % (a : Int)) + (a : Int) * (-(((x : Int) - -d) / (a : Int))) := by
    rw [Int.mul_neg]
    omega
  rw [e1, e2, Int.add_mul_emod_self_left, Int.emod_eq_of_lt (by omega) (by omega)]
section
variable {a b : Nat} {F : Nat → Nat → Bool} (ha1 : 1 ≤ a) (hb1 : 1 ≤ b) (ha : a ≤ 64) (hb : b ≤ 64)
include ha1 hb1 ha hb
theorem exch_mirror (dx dy : Int) {t : Nat} (ht : t < 2) : ∃ m c s : Gd, mirG (tabD a b F) (t : Int) = (m, 0) ∧ turnG m = (c, 0) ∧ mirG (turnG (tabD a b F)).1 (1 - (t : Int)) = (c, 0) ∧
    mirG (shiftG (tabD a b F) dx dy).1 (t : Int) = (s, 0) ∧ shiftG m (dx * (2 * (t : Int) - 1)) (dy * (1 - 2 * (t : Int))) = (s, 0) ∧ m.bits.length ≤ 4096 ∧ c.bits.length ≤ 4096 ∧ s.bits.length ≤ 4096 := by
  have hba : b * a ≤ 4096 := Nat.mul_le_mul hb ha
  have hab : a * b ≤ 4096 := Nat.mul_le_mul ha hb
  rw [turn_t ha1 hb1 ha hb, shift_t ha1 hb1 ha hb]
  rcases Nat.lt_or_ge t 1 with h | h
  · obtain rfl : t = 0 := by omega
    refine ⟨_, _, _, mir0_t ha1 hb1 ha hb, turn_t ha1 hb1 ha hb, ?_, mir0_t ha1 hb1 ha hb, ?_, ?_, ?_, ?_⟩
    · exact mir1_t hb1 ha1 hb ha
    · simp only [Int.natCast_zero, Int.mul_zero, Int.zero_sub, Int.mul_neg, Int.mul_one, Int.sub_zero]
      rw [shift_t ha1 hb1 ha hb]
      congr 1
      refine tabD_congr fun x y hx hy => ?_
      rw [mod_flip hx, Int.toNat_natCast]
    · simp only [tabD, tabD_len]; omega
    · simp only [tabD, tabD_len]; omega
    · simp only [tabD, tabD_len]; omega
  · obtain rfl : t = 1 := by omega
    refine ⟨_, _, _, mir1_t ha1 hb1 ha hb, turn_t ha1 hb1 ha hb, ?_, mir1_t ha1 hb1 ha hb, ?_, ?_, ?_, ?_⟩
    · exact mir0_t hb1 ha1 hb ha
    · simp only [Int.natCast_one, Int.mul_one]
      rw [shift_t ha1 hb1 ha hb]
      congr 1
      refine tabD_congr fun x y hx hy => ?_
      rw [mod_flip hy, Int.toNat_natCast]
      rw [show dx * (2 - 1) = dx by omega, show dy * (1 - 2) = -dy by omega]
    · simp only [tabD, tabD_len]; omega
    · simp only [tabD, tabD_len]; omega
    · simp only [tabD, tabD_len]; omega
theorem exch_turn (dx dy : Int) : turnG (shiftG (tabD a b F) dx dy).1 = shiftG (turnG (tabD a b F)).1 dy dx := by
  rw [shift_t ha1 hb1 ha hb, turn_t ha1 hb1 ha hb, turn_t ha1 hb1 ha hb, shift_t hb1 ha1 hb ha]
end
end Go.Proofs.YtliibficmdomjaaDoor
/- grid.Check gives the error 'chk', for any grid. -/
namespace Go.Proofs.YtliibficmdomjaaDoor
open Go.RowKit

theorem ret_i {k : IntKind} {a b : Int} (h : a = b) : Ending.returned (.int k a) = Ending.returned (.int k b) := by rw [h]

theorem check_any (W H : Int) (A : Option Addr) (n c : Nat) (w : World) :
    Calls Tryd.prog 40 #[.agg #[.int .i64 W, .int .i64 H, .slice A n c]] w fun e w' => e = .returned (.int .i64 (chk W H n)) ∧ Below w.heap.size w w' := by
  by_cases hb : 64 < W ∨ 64 < H
  · go_enter Tryd.func40, Tryd.ntmps40
    go_wp2
    all_goals (go_ret; exact ⟨ret_i (chk_big hb).symm, (Below.refl _ _).alloc (Nat.le_refl _) _⟩)
  by_cases hs : W < 1 ∨ H < 1
  · have hW : W ≤ 64 := by omega
    have hH : H ≤ 64 := by omega
    go_enter Tryd.func40, Tryd.ntmps40
    go_wp2
    all_goals (go_ret; exact ⟨ret_i (chk_bad hW hH (by omega)).symm, (Below.refl _ _).alloc (Nat.le_refl _) _⟩)
  have hW : W ≤ 64 := by omega
  have hH : H ≤ 64 := by omega
  have hW1 : 1 ≤ W := by omega
  have hH1 : 1 ≤ H := by omega
  have hm := mul_wrap hW hH hW1 hH1
  by_cases hl : (n : Int) = W * H
  · have hl' : ((n : Int) != wrap64 (W * H)) = false := by rw [hm, bne_eq_false_iff_eq]; exact hl
    have HL := Lib.hid hl; clear hl
    have HM := Lib.hid hm; clear hm
    go_enter Tryd.func40, Tryd.ntmps40
    go_wp2
    all_goals (go_ret; exact ⟨ret_i (chk_ok hW hH hW1 hH1 HL.out).symm, (Below.refl _ _).alloc (Nat.le_refl _) _⟩)
  · have hl' : ((n : Int) != wrap64 (W * H)) = true := by rw [hm, bne_iff_ne]; exact hl
    have HL := Lib.hid hl; clear hl
    have HM := Lib.hid hm; clear hm
    go_enter Tryd.func40, Tryd.ntmps40
    go_wp2
    all_goals (go_ret; exact ⟨ret_i (chk_bad hW hH (.inr (.inr HL.out))).symm, (Below.refl _ _).alloc (Nat.le_refl _) _⟩)
end Go.Proofs.YtliibficmdomjaaDoor
