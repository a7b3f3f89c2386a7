/- Parts of the proof, in their order. -/
import Derived.Test.YtliibficmdomjaaMg9z
import Derived.Test.YtliibficmdomjaaMg2z
import Derived.Laws.OwnMore
import Derived.Test.YtliibficmdomjaaPlainz
/- raddleref01.At: a cell's value. -/
namespace Go.Proofs.Ytliibficmdomjaa
open Go.RowKit

theorem at_any (a b x y : Nat) (l : List Bool) (H : Int) (A : Option Addr) (c : Nat) (w : World) (ha : a ≤ 64) (hb : b ≤ 64) (hx : x < a) (hy : y < b) (hr : Rd w A (b * a) (l.map Value.bool)) :
    Calls Try.prog 54 #[.agg #[.int .i64 a, .int .i64 H, .slice A (b * a) c], .int .i64 x, .int .i64 y] w fun e w' => e = .returned (.bool (l.getD (y * a + x) false)) ∧ Below w.heap.size w w' := by
  have hbs : l.length = b * a := by simpa using hr.len
  have hlt := Pl.cell_lt (w := a) (h := b) hx hy
  have hG := Blk.new w 24 #[.int .i64 a, .int .i64 H, .slice A (b * a) c]
  have hr' := hr.alloc (.cells #[.int .i64 a, .int .i64 H, .slice A (b * a) c] 24)
  have hB : Below w.heap.size w (w.alloc (.cells #[.int .i64 a, .int .i64 H, .slice A (b * a) c] 24)) := (Below.refl _ _).alloc (Nat.le_refl _) _
  obtain ⟨i0, i1, i2⟩ := idx_bounds ha hb hx hy
  obtain ⟨bl, o, rfl, hbl, hc⟩ := hr'.at_ (by omega)
  have hcell := cell_read hbs hlt hc
  generalize l.getD (y * a + x) false = p at hcell ⊢
  obtain ⟨c0, c1, c2⟩ := hG.cell3
  clear hr hr' hc hG
  go_enter Try.func54, Try.ntmps54
  go_wp2
  go_ret
  exact ⟨rfl, hB⟩

theorem at_to {v : Bool} (a b x y : Nat) (l : List Bool) (H : Int) (A : Option Addr) (c : Nat) (w : World) (h : l.getD (y * a + x) false = v) (ha : a ≤ 64) (hb : b ≤ 64) (hx : x < a) (hy : y < b) (hr : Rd w A (b * a) (l.map Value.bool)) :
    Calls Try.prog 54 #[.agg #[.int .i64 a, .int .i64 H, .slice A (b * a) c], .int .i64 x, .int .i64 y] w fun e w' => e = .returned (.bool v) ∧ Below w.heap.size w w' := h ▸ at_any a b x y l H A c w ha hb hx hy hr

end Go.Proofs.Ytliibficmdomjaa
/- A list that is filled column by column. No program in sight. -/
namespace Go.Proofs.Ytliibficmdomjaa
namespace Pl
/-- Of the W columns of H cells each, the first x are filled, and y cells of the next one; the cell (x, y) lies at place p x y. -/
structure Fill {α : Type} (n H : Nat) (p : Nat → Nat → Nat) (F : Nat → Nat → α) (l : List α) (x y : Nat) : Prop where
  len : l.length = n
  get : ∀ x' y', y' < H → (x' < x ∨ x' = x ∧ y' < y) → l[p x' y']? = some (F x' y')
section
variable {α : Type} {n W H x y : Nat} {p : Nat → Nat → Nat} {F : Nat → Nat → α} {l : List α}
theorem Fill.start (h : l.length = n) : Fill n H p F l 0 0 := ⟨h, fun _ _ _ h => by omega⟩
theorem Fill.set (h : Fill n H p F l x y) (hx : x < W) (hy : y < H) (hp : p x y < n) (hi : ∀ x' y', x' < W → y' < H → p x y = p x' y' → x = x' ∧ y = y') {u : α} (hu : u = F x y) : Fill n H p F (l.set (p x y) u) x (y + 1) := by
  subst hu
  refine ⟨by rw [List.length_set]; exact h.len, fun x' y' hy' hlt => ?_⟩
  rw [List.getElem?_set]
  by_cases e : p x y = p x' y'
  · obtain ⟨rfl, rfl⟩ := hi x' y' (by omega) hy' e
    rw [if_pos rfl, if_pos (by rw [h.len]; exact hp)]
  · rw [if_neg e]
    refine h.get x' y' hy' ?_
    rcases hlt with h1 | ⟨h1, h2⟩
    · exact .inl h1
    · refine .inr ⟨h1, ?_⟩
      subst h1
      rcases Nat.lt_or_ge y' y with h3 | h3
      · exact h3
      · obtain rfl : y' = y := by omega
        exact absurd rfl e
theorem Fill.col (h : Fill n H p F l x H) : Fill n H p F l (x + 1) 0 :=
  ⟨h.len, fun x' y' hy' hlt => h.get x' y' hy' (by omega)⟩
theorem Fill.tab_ {l : List α} (h : Fill (H * W) H (fun x y => y * W + x) F l W 0) : l = tab W H F :=
  tab_ext h.len fun x y hx hy => h.get x y hy (.inl hx)
end
end Pl
end Go.Proofs.Ytliibficmdomjaa
/- raddleref01.Great and Twin; a grid of at most 1,048,576 cells. -/
namespace Go.Proofs.Ytliibficmdomjaa
open Go.RowKit

set_option maxHeartbeats 1000000 in
theorem twin_any (W H : Int) (A : Option Addr) (n c : Nat) (bs : List Bool) (w : World) (hr : Rd w A n (bs.map Value.bool)) (hn : n ≤ 1048576) :
    Calls Try.prog 7 #[.agg #[.int .i64 W, .int .i64 H, .slice A n c]] w (RetT ⟨W, H, bs⟩ w) := by
  obtain ⟨i0, hi, hz0, hz1, hz2⟩ := info_parts Try.infoB
  obtain ⟨W0, hW0⟩ : ∃ W0, W0 = (w.alloc (.cells #[.int .i64 W, .int .i64 H, .slice A n c] 24)).alloc (.cells #[.int .i64 0, .int .i64 0, .slice none 0 0] 24) := ⟨_, rfl⟩
  have hG0 : Blk W0 w.heap.size 24 #[.int .i64 W, .int .i64 H, .slice A n c] := by rw [hW0]; exact (Blk.new w _ _).alloc _
  have hR0 : Blk W0 (w.heap.size + 1) 24 #[.int .i64 0, .int .i64 0, .slice none 0 0] := by rw [hW0]; simpa using Blk.new (w.alloc (.cells #[.int .i64 W, .int .i64 H, .slice A n c] 24)) 24 #[.int .i64 0, .int .i64 0, .slice none 0 0]
  have hB0 : Below w.heap.size w W0 := by rw [hW0]; exact Joins.below_alloc2 w _ _
  have hs0 : W0.heap.size = w.heap.size + 1 + 1 := by rw [hW0]; simp
  have hown0 : (W0.alloc (.cells #[] 4)).drew.ownsRow (w.heap.size + 1 + 1) 4 1 (.slice (some ⟨W0.heap.size, 0, none⟩) 0 0) 0 [] := World.ownsRow_lit W0 #[] 0 (by omega) (Nat.zero_le _) rfl
  obtain ⟨c0, c1, c2⟩ := hG0.cell3
  have hr0 : Rd (W0.alloc (.cells #[] 4)).drew A n (bs.map Value.bool) := ((hr.below hB0).alloc _).drew
  have HS0 := Lib.hid hs0
  go_enter Try.func7, Try.ntmps7
  go_wp2_with fail
  rw [← hW0]
  clear hW0 hs0
  go_region_held3 (fun w' => w'.cell? ⟨w.heap.size, 0, none⟩ = some (.int .i64 W) ∧ w'.cell? ⟨w.heap.size, 1, none⟩ = some (.int .i64 H) ∧ w'.cell? ⟨w.heap.size, 2, none⟩ = some (.slice A n c))
    (first | exact hG3.cell3 | exact (hG0.alloc _).cell3 | exact hG0.cell3 | go_keep)
    (first
      | (refine step_app_all _ rfl (.tmp 7) (.tmp 9) 22 rfl (w.heap.size + 1 + 1) 4 i0 (.bool false) 1 Try.underlying22 hi hz0 hz1 hz2 rfl (by decide) (.slice (some ⟨W0.heap.size, 0, none⟩) 0 0) 0 [] rfl hown0 A n c _ rfl hr0 (oneCell_bools bs) (by omega) (size_alloc_le (Nat.le_of_eq HS0.out.symm) _) ?_; intro A3 c3 w3 hown3 hgr3; have hG3 := (hG0.alloc _).drew.grown hgr3 (own_blk_ne hown0 ((hG0.alloc _).drew) (by decide)); have hR3 := (hR0.alloc _).drew.grown hgr3 (own_blk_ne hown0 ((hR0.alloc _).drew) (by decide)); obtain ⟨r0, r1, r2⟩ := hR3.cell3; obtain ⟨f0, f1, f2⟩ := hR3.frozen3)
      | fail)
  clear r0 r1 r2 f0 f1 f2 c0 c1 c2
  obtain ⟨q0, q1, q2⟩ := (hR3.set3 (.int .i64 W) (.int .i64 H) (.slice A3 (0 + n) c3)).cell3
  have hb3 : Below w.heap.size w w3 := ((hB0.alloc hB0.size _).drew).grown hgr3 (Nat.le_trans hB0.size (by simp)) (fun k hk => Nat.le_trans (by omega) (hown0.lt k hk).1)
  have R1 := Lib.hid (own_set3 (own_base hown3 (B := w.heap.size) (by omega)) hR3 (by decide) (.int .i64 W) (.int .i64 H) (.slice A3 (0 + n) c3))
  have R2 := Lib.hid (below_set3 hb3 (R := w.heap.size + 1) (by omega) (.int .i64 W) (.int .i64 H) (.slice A3 (0 + n) c3))
  clear hown3 hgr3 hG3 hR3 hb3 hown0 hr0 hG0 hR0 hB0
  go_wp2_with fail
  simp only [Nat.zero_add] at q0 q1 q2 R1 R2
  refine bodyPost_ret (v := .agg #[.int .i64 W, .int .i64 H, .slice A3 n c3]) (by simp [results, Try.results7, go_sem, q0, q1, q2]) rfl ?_
  exact ⟨A3, n, c3, rfl, R1.out, R2.out⟩
end Go.Proofs.Ytliibficmdomjaa
