/- grid.Not gives the grid and the error 'notG', in new memory, for any grid. -/
import Derived.Test.YtebbcpeldncekaaDoorBuildz
import Derived.Test.YtebbcpeldncekaaDoorMvDefz
namespace Go.Proofs.YtebbcpeldncekaaDoor
open Go.RowKit

theorem not1_gives (a b Bg : Nat) (A : Option Addr) (c : Nat) (bs : List Bool) (w : World) (ha : a ≤ 64) (hb : b ≤ 64)
    (hg : Blk w Bg 24 #[.int .i64 a, .int .i64 b, .slice A (b * a) c]) (hr : Rd w A (b * a) (bs.map Value.bool)) :
    Gives 52 #[.pointer (some ⟨Bg, 0, none⟩)] a b (fun x y => !(bs.getD (y * a + x) false)) w := by
  intro w' x y hbel hx hy
  have hg' := hg.keep hbel
  have hr' := hr.below hbel
  have hlt := Pl.cell_lt (w := a) (h := b) hx hy
  obtain ⟨bl, o, rfl, hbl, hc⟩ := hr'.at_ (by omega)
  have hcell : w'.cell? ⟨bl, o + (y * a + x), none⟩ = some (.bool (bs.getD (y * a + x) false)) := hc _ _ (by
    have := hr.len
    simp at this
    simp [List.getD, show y * a + x < bs.length by omega])
  obtain ⟨i0, i1, i2⟩ := idx_bounds ha hb hx hy
  have c0 := hg'.cell 0
  have c1 := hg'.cell 1
  have c2 := hg'.cell 2
  simp only [List.getElem?_toArray, List.getElem?_cons_zero, List.getElem?_cons_succ] at c0 c1 c2
  clear hg hr hg' hr' hc
  go_enter Tryd.func52, Tryd.ntmps52
  go_wp2
  go_ret
  exact ⟨rfl, Below.refl _ _⟩
theorem not_any (g : Gd) (A : Option Addr) (n c : Nat) (w : World) (hr : Rd w A n (g.bits.map Value.bool)) :
    Calls Tryd.prog 27 #[.agg #[.int .i64 g.w, .int .i64 g.h, .slice A n c]] w (RetG (notG g) w) := by
  obtain ⟨W, H, bs⟩ := g
  simp only at hr ⊢
  have hn : bs.length = n := by simpa using hr.len
  have hR0 : Blk ((w.alloc (.cells #[.int .i64 W, .int .i64 H, .slice A n c] 24)).alloc (.cells #[.int .i64 0, .int .i64 0, .slice none 0 0] 24)) (w.heap.size + 1) 24 #[.int .i64 0, .int .i64 0, .slice none 0 0] := by simpa using Blk.new (w.alloc (.cells #[.int .i64 W, .int .i64 H, .slice A n c] 24)) _ _
  have hG0 := (Blk.new w 24 #[.int .i64 W, .int .i64 H, .slice A n c]).alloc (.cells #[.int .i64 0, .int .i64 0, .slice none 0 0] 24)
  have hB0 : Below w.heap.size w ((w.alloc (.cells #[.int .i64 W, .int .i64 H, .slice A n c] 24)).alloc (.cells #[.int .i64 0, .int .i64 0, .slice none 0 0] 24)) := Joins.below_alloc2 w _ _
  by_cases hc : chk W H n = 0
  · obtain ⟨a, b, rfl, rfl, ha1, ha, hb1, hb, rfl⟩ := chk_zero hc
    have hcb : (chk (a : Int) (b : Int) (b * a) != 0) = false := by simpa using hc
    have HC : Hid (notG ⟨a, b, bs⟩ = (⟨a, b, bs.map fun b => !b⟩, 0)) := notG_ok (by unfold chkG; simp only [hn]; exact hc)
    clear hc
    have HN := Lib.hid hn; clear hn
    have hE := Proofs.enters_of Tryd.func52 (by kernel_rfl) rfl
    go_enter Tryd.func27, Tryd.ntmps27
    go_wp2_with fail
    refine (check_any _ _ _ _ _ _).mono ?_
    rintro e w1 ⟨rfl, hb1⟩
    have hR1 := hR0.keep hb1
    have hG1 := hG0.keep hb1
    have hB1 : Below w.heap.size w w1 := hB0.trans (hb1.mono (by simp; omega))
    have hr1 := hr.below hB1
    obtain ⟨c0, c1, c2⟩ := hG1.cell3
    go_wp2_with fail
    refine (build_any 52 _ a b _ w1 ha hb hE (not1_gives a b w.heap.size A c bs w1 ha hb hG1 hr1)).mono ?_
    rintro e w2 ⟨A2, cc, rfl, hown2, hb2⟩
    clear c0 c1 c2
    have hR2 := hR1.keep hb2
    obtain ⟨r0, r1, r2⟩ := hR2.cell3
    obtain ⟨f0, f1, f2⟩ := hR2.frozen3
    obtain ⟨q0, q1, q2⟩ := (hR2.set3 (.int .i64 a) (.int .i64 b) (.slice A2 (b * a) cc)).cell3
    go_wp2_with fail
    refine bodyPost_ret (v := .tuple #[.agg #[.int .i64 a, .int .i64 b, .slice A2 (b * a) cc], .int .i64 0]) (by simp [results, Tryd.results27, go_sem, q0, q1, q2]) rfl ?_
    refine ⟨A2, b * a, cc, by rw [HC.out], ?_, below_set3 (hB1.trans (hb2.mono hB1.size)) (by omega) _ _ _⟩
    rw [HC.out]
    have e : bs.map (fun b => !b) = Pl.tab a b fun x y => !(bs.getD (y * a + x) false) := Pl.map_tab false HN.out _
    simp only [e]
    exact own_set3 (own_base hown2 hB1.size) hR2 (by decide) _ _ _
  · have hcb : (chk W H n != 0) = true := by simpa using hc
    have HC : Hid (notG ⟨W, H, bs⟩ = (Gd.zero, chk W H n)) := by
      have := notG_bad (g := ⟨W, H, bs⟩) (by unfold chkG; simp only [hn]; exact hc)
      unfold chkG at this
      simp only [hn] at this
      exact this
    clear hc hn
    go_enter Tryd.func27, Tryd.ntmps27
    go_wp2_with fail
    refine (check_any _ _ _ _ _ _).mono ?_
    rintro e w1 ⟨rfl, hb1⟩
    have hR1 := hR0.keep hb1
    have hB1 : Below w.heap.size w w1 := hB0.trans (hb1.mono (by simp; omega))
    obtain ⟨r0, r1, r2⟩ := hR1.cell3
    obtain ⟨f0, f1, f2⟩ := hR1.frozen3
    obtain ⟨q0, q1, q2⟩ := (hR1.set3 (.int .i64 0) (.int .i64 0) (.slice none 0 0)).cell3
    go_wp2_with fail
    refine bodyPost_ret (v := .tuple #[.agg #[.int .i64 0, .int .i64 0, .slice none 0 0], .int .i64 (chk W H n)]) (by simp [results, Tryd.results27, go_sem, q0, q1, q2]) rfl ?_
    exact bad_ret HC.out (below_set3 hB1 (by omega) _ _ _)

end Go.Proofs.YtebbcpeldncekaaDoor
