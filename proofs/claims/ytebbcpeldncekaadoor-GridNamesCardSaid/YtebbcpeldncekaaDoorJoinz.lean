/- grid.And and grid.Or give the grids and errors of 'joinG', in new memory, for any two grids. -/
import Derived.Test.YtebbcpeldncekaaDoorBothz
import Derived.Test.YtebbcpeldncekaaDoorNotz
namespace Go.Proofs.YtebbcpeldncekaaDoor
open Go.RowKit

theorem and1_gives (a b Ba Bb : Nat) (A1 A2 : Option Addr) (c1 c2 : Nat) (bs ds : List Bool) (w : World) (ha : a ≤ 64) (hb : b ≤ 64)
    (hg : Blk w Ba 24 #[.int .i64 a, .int .i64 b, .slice A1 (b * a) c1]) (hr : Rd w A1 (b * a) (bs.map Value.bool))
    (hg2 : Blk w Bb 24 #[.int .i64 a, .int .i64 b, .slice A2 (b * a) c2]) (hr2 : Rd w A2 (b * a) (ds.map Value.bool)) :
    Gives 50 #[.pointer (some ⟨Ba, 0, none⟩), .pointer (some ⟨Bb, 0, none⟩)] a b (fun x y => bs.getD (y * a + x) false && ds.getD (y * a + x) false) w := by
  intro w' x y hbel hx hy
  have hg' := hg.keep hbel
  have hg2' := hg2.keep hbel
  have hr' := hr.below hbel
  have hr2' := hr2.below hbel
  have hlt := Pl.cell_lt (w := a) (h := b) hx hy
  obtain ⟨bl, o, rfl, hbl, hc⟩ := hr'.at_ (by omega)
  obtain ⟨bl2, o2, rfl, hbl2, hd⟩ := hr2'.at_ (by omega)
  have hcell : w'.cell? ⟨bl, o + (y * a + x), none⟩ = some (.bool (bs.getD (y * a + x) false)) := hc _ _ (by
    have := hr.len
    simp at this
    simp [List.getD, show y * a + x < bs.length by omega])
  have hcell2 : w'.cell? ⟨bl2, o2 + (y * a + x), none⟩ = some (.bool (ds.getD (y * a + x) false)) := hd _ _ (by
    have := hr2.len
    simp at this
    simp [List.getD, show y * a + x < ds.length by omega])
  obtain ⟨i0, i1, i2⟩ := idx_bounds ha hb hx hy
  obtain ⟨c0, c1, c2⟩ := hg'.cell3
  obtain ⟨d0, d1, d2⟩ := hg2'.cell3
  show Calls _ _ _ _ fun e w'' => e = .returned (.bool (bs.getD (y * a + x) false && ds.getD (y * a + x) false)) ∧ Below w'.heap.size w' w''
  generalize bs.getD (y * a + x) false = p at *
  generalize ds.getD (y * a + x) false = q at *
  clear hg hr hg' hr' hc hg2 hr2 hg2' hr2' hd
  cases p
  all_goals
    go_enter Tryd.func50, Tryd.ntmps50
    go_wp2
    go_ret
    exact ⟨by simp, Below.refl _ _⟩

theorem and_any (g g2 : Gd) (A A2 : Option Addr) (n c n2 c2 : Nat) (w : World) (hr : Rd w A n (g.bits.map Value.bool)) (hr2 : Rd w A2 n2 (g2.bits.map Value.bool)) :
    Calls Tryd.prog 25 #[.agg #[.int .i64 g.w, .int .i64 g.h, .slice A n c], .agg #[.int .i64 g2.w, .int .i64 g2.h, .slice A2 n2 c2]] w (RetG (joinG (fun p q => p && q) g g2) w) := by
  have hn : g.bits.length = n := by simpa using hr.len
  have hn2 : g2.bits.length = n2 := by simpa using hr2.len
  have HBo := Lib.hid (fun w => both_any g g2 A A2 n c n2 c2 w hn hn2)
  obtain ⟨W, H, bs⟩ := g
  obtain ⟨W2, H2, bs2⟩ := g2
  simp only at hr hr2 hn hn2 HBo ⊢
  have hA0 := ((Blk.new w 24 #[.int .i64 W, .int .i64 H, .slice A n c]).alloc (.cells #[.int .i64 W2, .int .i64 H2, .slice A2 n2 c2] 24)).alloc (.cells #[.int .i64 0, .int .i64 0, .slice none 0 0] 24)
  have hA1 : Blk (((w.alloc (.cells #[.int .i64 W, .int .i64 H, .slice A n c] 24)).alloc (.cells #[.int .i64 W2, .int .i64 H2, .slice A2 n2 c2] 24)).alloc (.cells #[.int .i64 0, .int .i64 0, .slice none 0 0] 24)) (w.heap.size + 1) 24 #[.int .i64 W2, .int .i64 H2, .slice A2 n2 c2] := by
    simpa using (Blk.new (w.alloc (.cells #[.int .i64 W, .int .i64 H, .slice A n c] 24)) 24 #[.int .i64 W2, .int .i64 H2, .slice A2 n2 c2]).alloc (.cells #[.int .i64 0, .int .i64 0, .slice none 0 0] 24)
  have hR0 : Blk (((w.alloc (.cells #[.int .i64 W, .int .i64 H, .slice A n c] 24)).alloc (.cells #[.int .i64 W2, .int .i64 H2, .slice A2 n2 c2] 24)).alloc (.cells #[.int .i64 0, .int .i64 0, .slice none 0 0] 24)) (w.heap.size + 1 + 1) 24 #[.int .i64 0, .int .i64 0, .slice none 0 0] := by
    simpa using Blk.new ((w.alloc (.cells #[.int .i64 W, .int .i64 H, .slice A n c] 24)).alloc (.cells #[.int .i64 W2, .int .i64 H2, .slice A2 n2 c2] 24)) 24 #[.int .i64 0, .int .i64 0, .slice none 0 0]
  have hB0 := Joins.below_alloc3 w (.cells #[.int .i64 W, .int .i64 H, .slice A n c] 24) (.cells #[.int .i64 W2, .int .i64 H2, .slice A2 n2 c2] 24) (.cells #[.int .i64 0, .int .i64 0, .slice none 0 0] 24)
  by_cases hc : bothG ⟨W, H, bs⟩ ⟨W2, H2, bs2⟩ = 0
  · obtain ⟨h1, h2, h3, h4⟩ := bothG_zero hc
    unfold chkG at h1 h2
    simp only at h1 h2 h3 h4
    subst h3 h4
    obtain ⟨a, b, rfl, rfl, ha1, ha, hb1, hb, hab⟩ := chk_zero h1
    have h2' : bs2.length = b * a := by
      obtain ⟨a', b', hw', hh', _, _, _, _, hab'⟩ := chk_zero h2
      have e1 : a' = a := by omega
      have e2 : b' = b := by omega
      subst e1 e2
      exact hab'
    have HC : Hid (joinG (fun p q => p && q) ⟨a, b, bs⟩ ⟨a, b, bs2⟩ = (⟨a, b, List.zipWith (fun p q => p && q) bs bs2⟩, 0)) := joinG_ok hc
    have hcb : (bothG ⟨a, b, bs⟩ ⟨a, b, bs2⟩ != 0) = false := by simpa using hc
    obtain rfl : n = b * a := by omega
    obtain rfl : n2 = b * a := by omega
    have HN := Lib.hid hab
    have HN2 := Lib.hid h2'
    clear hc h1 h2 hn hn2 hab h2'
    have hE := Proofs.enters_of Tryd.func50 (by kernel_rfl) rfl
    go_enter Tryd.func25, Tryd.ntmps25
    go_wp2_with fail
    refine (HBo.out _).mono ?_
    rintro e w1 ⟨rfl, hb1⟩
    have hR1 := hR0.keep hb1
    have hA01 := hA0.keep hb1
    have hA11 := hA1.keep hb1
    have hB1 := below_then hB0 hb1
    have hr1 := hr.below hB1
    have hr21 := hr2.below hB1
    obtain ⟨c0, c1, c2⟩ := hA01.cell3
    go_wp2_with fail
    refine (build_any 50 _ a b _ w1 ha hb hE (and1_gives a b w.heap.size (w.heap.size + 1) A A2 c _ bs bs2 w1 ha hb hA01 hr1 hA11 hr21)).mono ?_
    rintro e w2 ⟨A3, cc, rfl, hown2, hb2⟩
    clear c0 c1 c2
    have hR2 := hR1.keep hb2
    obtain ⟨r0, r1, r2⟩ := hR2.cell3
    obtain ⟨f0, f1, f2⟩ := hR2.frozen3
    obtain ⟨q0, q1, q2⟩ := (hR2.set3 (.int .i64 a) (.int .i64 b) (.slice A3 (b * a) cc)).cell3
    go_wp2_with fail
    refine bodyPost_ret (v := .tuple #[.agg #[.int .i64 a, .int .i64 b, .slice A3 (b * a) cc], .int .i64 0]) (by simp [results, Tryd.results25, go_sem, q0, q1, q2]) rfl ?_
    refine ⟨A3, b * a, cc, by rw [HC.out], ?_, below_set3 (below_then hB1 hb2) (by omega) _ _ _⟩
    rw [HC.out]
    have e : List.zipWith (fun p q => p && q) bs bs2 = Pl.tab a b fun x y => bs.getD (y * a + x) false && bs2.getD (y * a + x) false := Pl.zip_tab false false HN.out HN2.out _
    simp only [e]
    exact own_set3 (own_base hown2 hB1.size) hR2 (by decide) _ _ _
  · have hcb : (bothG ⟨W, H, bs⟩ ⟨W2, H2, bs2⟩ != 0) = true := by simpa using hc
    have HC := Lib.hid (joinG_bad (p := fun p q => p && q) hc)
    clear hc hn hn2
    go_enter Tryd.func25, Tryd.ntmps25
    go_wp2_with fail
    refine (HBo.out _).mono ?_
    rintro e w1 ⟨rfl, hb1⟩
    have hR1 := hR0.keep hb1
    have hB1 := below_then hB0 hb1
    obtain ⟨r0, r1, r2⟩ := hR1.cell3
    obtain ⟨f0, f1, f2⟩ := hR1.frozen3
    obtain ⟨q0, q1, q2⟩ := (hR1.set3 (.int .i64 0) (.int .i64 0) (.slice none 0 0)).cell3
    go_wp2_with fail
    refine bodyPost_ret (v := .tuple #[.agg #[.int .i64 0, .int .i64 0, .slice none 0 0], .int .i64 (bothG ⟨W, H, bs⟩ ⟨W2, H2, bs2⟩)]) (by simp [results, Tryd.results25, go_sem, q0, q1, q2]) rfl ?_
    exact bad_ret HC.out (below_set3 hB1 (by omega) _ _ _)

theorem or1_gives (a b Ba Bb : Nat) (A1 A2 : Option Addr) (c1 c2 : Nat) (bs ds : List Bool) (w : World) (ha : a ≤ 64) (hb : b ≤ 64)
    (hg : Blk w Ba 24 #[.int .i64 a, .int .i64 b, .slice A1 (b * a) c1]) (hr : Rd w A1 (b * a) (bs.map Value.bool))
    (hg2 : Blk w Bb 24 #[.int .i64 a, .int .i64 b, .slice A2 (b * a) c2]) (hr2 : Rd w A2 (b * a) (ds.map Value.bool)) :
    Gives 51 #[.pointer (some ⟨Ba, 0, none⟩), .pointer (some ⟨Bb, 0, none⟩)] a b (fun x y => bs.getD (y * a + x) false || ds.getD (y * a + x) false) w := by
  intro w' x y hbel hx hy
  have hg' := hg.keep hbel
  have hg2' := hg2.keep hbel
  have hr' := hr.below hbel
  have hr2' := hr2.below hbel
  have hlt := Pl.cell_lt (w := a) (h := b) hx hy
  obtain ⟨bl, o, rfl, hbl, hc⟩ := hr'.at_ (by omega)
  obtain ⟨bl2, o2, rfl, hbl2, hd⟩ := hr2'.at_ (by omega)
  have hcell : w'.cell? ⟨bl, o + (y * a + x), none⟩ = some (.bool (bs.getD (y * a + x) false)) := hc _ _ (by
    have := hr.len
    simp at this
    simp [List.getD, show y * a + x < bs.length by omega])
  have hcell2 : w'.cell? ⟨bl2, o2 + (y * a + x), none⟩ = some (.bool (ds.getD (y * a + x) false)) := hd _ _ (by
    have := hr2.len
    simp at this
    simp [List.getD, show y * a + x < ds.length by omega])
  obtain ⟨i0, i1, i2⟩ := idx_bounds ha hb hx hy
  obtain ⟨c0, c1, c2⟩ := hg'.cell3
  obtain ⟨d0, d1, d2⟩ := hg2'.cell3
  show Calls _ _ _ _ fun e w'' => e = .returned (.bool (bs.getD (y * a + x) false || ds.getD (y * a + x) false)) ∧ Below w'.heap.size w' w''
  generalize bs.getD (y * a + x) false = p at *
  generalize ds.getD (y * a + x) false = q at *
  clear hg hr hg' hr' hc hg2 hr2 hg2' hr2' hd
  cases p
  all_goals
    go_enter Tryd.func51, Tryd.ntmps51
    go_wp2
    go_ret
    exact ⟨by simp, Below.refl _ _⟩

theorem or_any (g g2 : Gd) (A A2 : Option Addr) (n c n2 c2 : Nat) (w : World) (hr : Rd w A n (g.bits.map Value.bool)) (hr2 : Rd w A2 n2 (g2.bits.map Value.bool)) :
    Calls Tryd.prog 26 #[.agg #[.int .i64 g.w, .int .i64 g.h, .slice A n c], .agg #[.int .i64 g2.w, .int .i64 g2.h, .slice A2 n2 c2]] w (RetG (joinG (fun p q => p || q) g g2) w) := by
  have hn : g.bits.length = n := by simpa using hr.len
  have hn2 : g2.bits.length = n2 := by simpa using hr2.len
  have HBo := Lib.hid (fun w => both_any g g2 A A2 n c n2 c2 w hn hn2)
  obtain ⟨W, H, bs⟩ := g
  obtain ⟨W2, H2, bs2⟩ := g2
  simp only at hr hr2 hn hn2 HBo ⊢
  have hA0 := ((Blk.new w 24 #[.int .i64 W, .int .i64 H, .slice A n c]).alloc (.cells #[.int .i64 W2, .int .i64 H2, .slice A2 n2 c2] 24)).alloc (.cells #[.int .i64 0, .int .i64 0, .slice none 0 0] 24)
  have hA1 : Blk (((w.alloc (.cells #[.int .i64 W, .int .i64 H, .slice A n c] 24)).alloc (.cells #[.int .i64 W2, .int .i64 H2, .slice A2 n2 c2] 24)).alloc (.cells #[.int .i64 0, .int .i64 0, .slice none 0 0] 24)) (w.heap.size + 1) 24 #[.int .i64 W2, .int .i64 H2, .slice A2 n2 c2] := by
    simpa using (Blk.new (w.alloc (.cells #[.int .i64 W, .int .i64 H, .slice A n c] 24)) 24 #[.int .i64 W2, .int .i64 H2, .slice A2 n2 c2]).alloc (.cells #[.int .i64 0, .int .i64 0, .slice none 0 0] 24)
  have hR0 : Blk (((w.alloc (.cells #[.int .i64 W, .int .i64 H, .slice A n c] 24)).alloc (.cells #[.int .i64 W2, .int .i64 H2, .slice A2 n2 c2] 24)).alloc (.cells #[.int .i64 0, .int .i64 0, .slice none 0 0] 24)) (w.heap.size + 1 + 1) 24 #[.int .i64 0, .int .i64 0, .slice none 0 0] := by
    simpa using Blk.new ((w.alloc (.cells #[.int .i64 W, .int .i64 H, .slice A n c] 24)).alloc (.cells #[.int .i64 W2, .int .i64 H2, .slice A2 n2 c2] 24)) 24 #[.int .i64 0, .int .i64 0, .slice none 0 0]
  have hB0 := Joins.below_alloc3 w (.cells #[.int .i64 W, .int .i64 H, .slice A n c] 24) (.cells #[.int .i64 W2, .int .i64 H2, .slice A2 n2 c2] 24) (.cells #[.int .i64 0, .int .i64 0, .slice none 0 0] 24)
  by_cases hc : bothG ⟨W, H, bs⟩ ⟨W2, H2, bs2⟩ = 0
  · obtain ⟨h1, h2, h3, h4⟩ := bothG_zero hc
    unfold chkG at h1 h2
    simp only at h1 h2 h3 h4
    subst h3 h4
    obtain ⟨a, b, rfl, rfl, ha1, ha, hb1, hb, hab⟩ := chk_zero h1
    have h2' : bs2.length = b * a := by
      obtain ⟨a', b', hw', hh', _, _, _, _, hab'⟩ := chk_zero h2
      have e1 : a' = a := by omega
      have e2 : b' = b := by omega
      subst e1 e2
      exact hab'
    have HC : Hid (joinG (fun p q => p || q) ⟨a, b, bs⟩ ⟨a, b, bs2⟩ = (⟨a, b, List.zipWith (fun p q => p || q) bs bs2⟩, 0)) := joinG_ok hc
    have hcb : (bothG ⟨a, b, bs⟩ ⟨a, b, bs2⟩ != 0) = false := by simpa using hc
    obtain rfl : n = b * a := by omega
    obtain rfl : n2 = b * a := by omega
    have HN := Lib.hid hab
    have HN2 := Lib.hid h2'
    clear hc h1 h2 hn hn2 hab h2'
    have hE := Proofs.enters_of Tryd.func51 (by kernel_rfl) rfl
    go_enter Tryd.func26, Tryd.ntmps26
    go_wp2_with fail
    refine (HBo.out _).mono ?_
    rintro e w1 ⟨rfl, hb1⟩
    have hR1 := hR0.keep hb1
    have hA01 := hA0.keep hb1
    have hA11 := hA1.keep hb1
    have hB1 := below_then hB0 hb1
    have hr1 := hr.below hB1
    have hr21 := hr2.below hB1
    obtain ⟨c0, c1, c2⟩ := hA01.cell3
    go_wp2_with fail
    refine (build_any 51 _ a b _ w1 ha hb hE (or1_gives a b w.heap.size (w.heap.size + 1) A A2 c _ bs bs2 w1 ha hb hA01 hr1 hA11 hr21)).mono ?_
    rintro e w2 ⟨A3, cc, rfl, hown2, hb2⟩
    clear c0 c1 c2
    have hR2 := hR1.keep hb2
    obtain ⟨r0, r1, r2⟩ := hR2.cell3
    obtain ⟨f0, f1, f2⟩ := hR2.frozen3
    obtain ⟨q0, q1, q2⟩ := (hR2.set3 (.int .i64 a) (.int .i64 b) (.slice A3 (b * a) cc)).cell3
    go_wp2_with fail
    refine bodyPost_ret (v := .tuple #[.agg #[.int .i64 a, .int .i64 b, .slice A3 (b * a) cc], .int .i64 0]) (by simp [results, Tryd.results26, go_sem, q0, q1, q2]) rfl ?_
    refine ⟨A3, b * a, cc, by rw [HC.out], ?_, below_set3 (below_then hB1 hb2) (by omega) _ _ _⟩
    rw [HC.out]
    have e : List.zipWith (fun p q => p || q) bs bs2 = Pl.tab a b fun x y => bs.getD (y * a + x) false || bs2.getD (y * a + x) false := Pl.zip_tab false false HN.out HN2.out _
    simp only [e]
    exact own_set3 (own_base hown2 hB1.size) hR2 (by decide) _ _ _
  · have hcb : (bothG ⟨W, H, bs⟩ ⟨W2, H2, bs2⟩ != 0) = true := by simpa using hc
    have HC := Lib.hid (joinG_bad (p := fun p q => p || q) hc)
    clear hc hn hn2
    go_enter Tryd.func26, Tryd.ntmps26
    go_wp2_with fail
    refine (HBo.out _).mono ?_
    rintro e w1 ⟨rfl, hb1⟩
    have hR1 := hR0.keep hb1
    have hB1 := below_then hB0 hb1
    obtain ⟨r0, r1, r2⟩ := hR1.cell3
    obtain ⟨f0, f1, f2⟩ := hR1.frozen3
    obtain ⟨q0, q1, q2⟩ := (hR1.set3 (.int .i64 0) (.int .i64 0) (.slice none 0 0)).cell3
    go_wp2_with fail
    refine bodyPost_ret (v := .tuple #[.agg #[.int .i64 0, .int .i64 0, .slice none 0 0], .int .i64 (bothG ⟨W, H, bs⟩ ⟨W2, H2, bs2⟩)]) (by simp [results, Tryd.results26, go_sem, q0, q1, q2]) rfl ?_
    exact bad_ret HC.out (below_set3 hB1 (by omega) _ _ _)

end Go.Proofs.YtebbcpeldncekaaDoor
