/- grid.Shift gives the plain result shiftG, in new memory, for any grid and steps. -/
import Derived.Test.YtebbcpeldncekaaDoorAroundz
import Derived.StillTailTactics
namespace Go.Proofs.YtebbcpeldncekaaDoor
open Go.RowKit

set_option maxRecDepth 100000 in
theorem shift1_gives (dx dy : Int) (Bx By a b Bg : Nat) (A : Option Addr) (c : Nat) (bs : List Bool) (w : World) (ha : a ≤ 64) (hb : b ≤ 64) (hdx : 0 ≤ dx) (hdx2 : dx < a) (hdy : 0 ≤ dy) (hdy2 : dy < b)
    (hg : Blk w Bg 24 #[.int .i64 a, .int .i64 b, .slice A (b * a) c]) (hr : Rd w A (b * a) (bs.map Value.bool)) (hbx : Blk w Bx 3 #[.int .i64 dx]) (hby : Blk w By 3 #[.int .i64 dy]) :
    Gives 46 #[.pointer (some ⟨Bg, 0, none⟩), .pointer (some ⟨By, 0, none⟩), .pointer (some ⟨Bx, 0, none⟩)] a b (fun x y => bs.getD ((((y : Int) - dy) % (b : Int)).toNat * a + (((x : Int) - dx) % (a : Int)).toNat) false) w := by
  intro w' x y hbel hx hy
  show Calls _ _ _ _ fun e w'' => e = .returned (.bool (bs.getD ((((y : Int) - dy) % (b : Int)).toNat * a + (((x : Int) - dx) % (a : Int)).toNat) false)) ∧ Below w'.heap.size w' w''
  have hg' := hg.keep hbel
  have hr' := hr.below hbel
  have hbs : bs.length = b * a := by simpa using hr.len
  have u1 := Int.emod_nonneg ((x : Int) - dx) (show (a : Int) ≠ 0 by omega)
  have u2 := Int.emod_lt_of_pos ((x : Int) - dx) (show 0 < (a : Int) by omega)
  have v1 := Int.emod_nonneg ((y : Int) - dy) (show (b : Int) ≠ 0 by omega)
  have v2 := Int.emod_lt_of_pos ((y : Int) - dy) (show 0 < (b : Int) by omega)
  have hu : ((x : Int) - dx) % (a : Int) = (((((x : Int) - dx) % (a : Int)).toNat : Nat) : Int) := by omega
  have hv : ((y : Int) - dy) % (b : Int) = (((((y : Int) - dy) % (b : Int)).toNat : Nat) : Int) := by omega
  have hu2 : (((x : Int) - dx) % (a : Int)).toNat < a := by omega
  have hv2 : (((y : Int) - dy) % (b : Int)).toNat < b := by omega
  generalize (((x : Int) - dx) % (a : Int)).toNat = zx at *
  generalize (((y : Int) - dy) % (b : Int)).toNat = zy at *
  clear u1 u2 v1 v2
  have hlt : zy * a + zx < b * a := Pl.cell_lt hu2 hv2
  obtain ⟨i0, i1⟩ := mul_bound (p := (zy : Int)) (q := (a : Int)) (by omega) (by omega) (by omega) (by omega)
  obtain ⟨bl, o, rfl, hbl, hc⟩ := hr'.at_ (by omega)
  have hcell := cell_read hbs hlt hc
  obtain ⟨c0, c1, c2⟩ := hg'.cell3
  have cx := (hbx.keep hbel).cell 0
  have cy := (hby.keep hbel).cell 0
  clear hg hr hg' hr' hc hbs hbx hby
  go_enter Tryd.func46, Tryd.ntmps46
  go_wp2_with fail
  go_quiet ((go_at_call 45; exact Calls.quiet_of_same (around_any _ _ _ (by omega) (by omega))))
  go_wp2
  go_ret
  exact ⟨rfl, below_drewN (Below.refl _ _) _⟩

set_option maxHeartbeats 1000000 in
set_option maxRecDepth 100000 in
theorem shift_any (g : Gd) (dx dy : Int) (A : Option Addr) (n c : Nat) (w : World) (hr : Rd w A n (g.bits.map Value.bool)) :
    Calls Tryd.prog 23 #[.agg #[.int .i64 g.w, .int .i64 g.h, .slice A n c], .int .i64 dx, .int .i64 dy] w (RetG (shiftG g dx dy) w) := by
  obtain ⟨W, H, bs⟩ := g
  simp only at hr ⊢
  have hn : bs.length = n := by simpa using hr.len
  have hG0 : Blk ((((w.alloc (.cells #[.int .i64 W, .int .i64 H, .slice A n c] 24)).alloc (.cells #[.int .i64 dx] 3)).alloc (.cells #[.int .i64 dy] 3)).alloc (.cells #[.int .i64 0, .int .i64 0, .slice none 0 0] 24)) (w.heap.size) 24 #[.int .i64 W, .int .i64 H, .slice A n c] := by simpa using (((Blk.new w 24 #[.int .i64 W, .int .i64 H, .slice A n c]).alloc (.cells #[.int .i64 dx] 3)).alloc (.cells #[.int .i64 dy] 3)).alloc (.cells #[.int .i64 0, .int .i64 0, .slice none 0 0] 24)
  have hX0 : Blk ((((w.alloc (.cells #[.int .i64 W, .int .i64 H, .slice A n c] 24)).alloc (.cells #[.int .i64 dx] 3)).alloc (.cells #[.int .i64 dy] 3)).alloc (.cells #[.int .i64 0, .int .i64 0, .slice none 0 0] 24)) (w.heap.size + 1) 3 #[.int .i64 dx] := by simpa using ((Blk.new (w.alloc (.cells #[.int .i64 W, .int .i64 H, .slice A n c] 24)) 3 #[.int .i64 dx]).alloc (.cells #[.int .i64 dy] 3)).alloc (.cells #[.int .i64 0, .int .i64 0, .slice none 0 0] 24)
  have hY0 : Blk ((((w.alloc (.cells #[.int .i64 W, .int .i64 H, .slice A n c] 24)).alloc (.cells #[.int .i64 dx] 3)).alloc (.cells #[.int .i64 dy] 3)).alloc (.cells #[.int .i64 0, .int .i64 0, .slice none 0 0] 24)) (w.heap.size + 1 + 1) 3 #[.int .i64 dy] := by simpa using (Blk.new ((w.alloc (.cells #[.int .i64 W, .int .i64 H, .slice A n c] 24)).alloc (.cells #[.int .i64 dx] 3)) 3 #[.int .i64 dy]).alloc (.cells #[.int .i64 0, .int .i64 0, .slice none 0 0] 24)
  have hR0 : Blk ((((w.alloc (.cells #[.int .i64 W, .int .i64 H, .slice A n c] 24)).alloc (.cells #[.int .i64 dx] 3)).alloc (.cells #[.int .i64 dy] 3)).alloc (.cells #[.int .i64 0, .int .i64 0, .slice none 0 0] 24)) (w.heap.size + 1 + 1 + 1) 24 #[.int .i64 0, .int .i64 0, .slice none 0 0] := by simpa using Blk.new (((w.alloc (.cells #[.int .i64 W, .int .i64 H, .slice A n c] 24)).alloc (.cells #[.int .i64 dx] 3)).alloc (.cells #[.int .i64 dy] 3)) 24 #[.int .i64 0, .int .i64 0, .slice none 0 0]
  have hB0 : Below w.heap.size w ((((w.alloc (.cells #[.int .i64 W, .int .i64 H, .slice A n c] 24)).alloc (.cells #[.int .i64 dx] 3)).alloc (.cells #[.int .i64 dy] 3)).alloc (.cells #[.int .i64 0, .int .i64 0, .slice none 0 0] 24)) := ((((Below.refl w.heap.size w).alloc (Nat.le_refl _) (.cells #[.int .i64 W, .int .i64 H, .slice A n c] 24)).alloc (by simp) (.cells #[.int .i64 dx] 3)).alloc (by simp; omega) (.cells #[.int .i64 dy] 3)).alloc (by simp; omega) (.cells #[.int .i64 0, .int .i64 0, .slice none 0 0] 24)
  by_cases hc : chk W H n = 0
  · obtain ⟨a, b, rfl, rfl, ha1, ha, hbb, hb, rfl⟩ := chk_zero hc
    have hcb : (chk (a : Int) (b : Int) (b * a) != 0) = false := by simpa using hc
    have HS := Lib.hid (fun k => withChk_ok (bs := bs) (a := a) (b := b) (k := k) (by rw [hn]; exact hc))
    clear hc
    have HN := Lib.hid hn; clear hn
    have ha0 : ¬ (a : Int) = 0 := by omega
    have hb0 : ¬ (b : Int) = 0 := by omega
    have hP : shiftG ⟨a, b, bs⟩ dx dy = tabG a b fun x y => bs.getD ((((y : Int) - dy % (b : Int)) % (b : Int)).toNat * a + (((x : Int) - dx % (a : Int)) % (a : Int)).toNat) false := by
      refine (HS.out _).trans ?_
      simp only [Int.sub_emod_emod]
    have HT := Lib.hid hP
    clear hP
    have u1 := Int.emod_nonneg dx (show (a : Int) ≠ 0 by omega)
    have u2 := Int.emod_lt_of_pos dx (show 0 < (a : Int) by omega)
    have v1 := Int.emod_nonneg dy (show (b : Int) ≠ 0 by omega)
    have v2 := Int.emod_lt_of_pos dy (show 0 < (b : Int) by omega)
    have HC : Hid (shiftG ⟨a, b, bs⟩ dx dy = (⟨((a : Nat) : Int), ((b : Nat) : Int), Pl.tab (a) (b) fun x y => bs.getD ((((y : Int) - dy % (b : Int)) % (b : Int)).toNat * a + (((x : Int) - dx % (a : Int)) % (a : Int)).toNat) false⟩, 0)) := by
      exact HT.out
    have hE := Proofs.enters_of Tryd.func46 (by kernel_rfl) rfl
    go_enter Tryd.func23, Tryd.ntmps23
    go_wp2_with fail
    refine (check_any _ _ _ _ _ _).mono ?_
    rintro e w1 ⟨rfl, hb1⟩
    have hG1 := hG0.keep hb1
    have hX1 := hX0.keep hb1
    have hY1 := hY0.keep hb1
    have hR1 := hR0.keep hb1
    have hB1 := below_then hB0 hb1
    have hr1 := hr.below hB1
    obtain ⟨c0, c1, c2⟩ := hG1.cell3
    have ccX := hX1.cell 0
    have ccY := hY1.cell 0
    have fX := hX1.frozen 0
    have fY := hY1.frozen 0
    have hG3 := (hG1.far (p := ⟨w.heap.size + 1, 0, none⟩) (by simp; try omega) (.int .i64 (dx % (a : Int)))).far (p := ⟨w.heap.size + 1 + 1, 0, none⟩) (by simp; try omega) (.int .i64 (dy % (b : Int)))
    have hR3 := (hR1.far (p := ⟨w.heap.size + 1, 0, none⟩) (by simp; try omega) (.int .i64 (dx % (a : Int)))).far (p := ⟨w.heap.size + 1 + 1, 0, none⟩) (by simp; try omega) (.int .i64 (dy % (b : Int)))
    have hX3 := (hX1.set_ 0 (.int .i64 (dx % (a : Int)))).far (p := ⟨w.heap.size + 1 + 1, 0, none⟩) (by simp; try omega) (.int .i64 (dy % (b : Int)))
    have hY3 := (hY1.far (p := ⟨w.heap.size + 1, 0, none⟩) (by simp; try omega) (.int .i64 (dx % (a : Int)))).set_ 0 (.int .i64 (dy % (b : Int)))
    simp only [List.setIfInBounds_toArray, List.set_cons_zero] at hX3 hY3
    have hB3 := (hB1.setCell (p := ⟨w.heap.size + 1, 0, none⟩) (by simp; try omega) (.int .i64 (dx % (a : Int)))).setCell (p := ⟨w.heap.size + 1 + 1, 0, none⟩) (by simp; try omega) (.int .i64 (dy % (b : Int)))
    have hr3 := hr1.only (((Only.refl [w.heap.size + 1, w.heap.size + 1 + 1] w1).set (p := ⟨w.heap.size + 1, 0, none⟩) (by simp; try omega) (.int .i64 (dx % (a : Int)))).set (p := ⟨w.heap.size + 1 + 1, 0, none⟩) (by simp; try omega) (.int .i64 (dy % (b : Int)))) (fun q o h1 h2 hm => by have := hr.lt q o h1 h2; simp at hm; omega)
    have HX3 := Lib.hid hX3
    clear hG1 hX1 hY1 hR1 hr1 hX3
    go_wp2_with fail
    go_still_tail 8, (by kernel_rfl)
    still_call (around_any dx (a : Int) _ (by omega) (by omega))
    repeat still_step
    still_call (around_any dy (b : Int) _ (by omega) (by omega))
    refine wpStill_nil ?_
    show wpList _ _ _ _ _ w1.drew
    all_goals
      go_wp2_with fail
      clear ccX ccY fX fY
      have d0 := (hG3.drew).cell 0
      have d1 := (hG3.drew).cell 1
      go_wp2_with fail
      refine (build_any 46 _ a b _ _ ha hb hE (shift1_gives _ _ _ _ a b _ A c bs _ ha hb u1 u2 v1 v2 hG3.drew hr3.drew HX3.out.drew hY3.drew)).mono ?_
      rintro e w2 ⟨A2, cc, rfl, hown2, hb2⟩
      clear c0 c1 c2 d0 d1
      have hR2 := hR3.drew.keep hb2
      obtain ⟨r0, r1, r2⟩ := hR2.cell3
      obtain ⟨f0, f1, f2⟩ := hR2.frozen3
      obtain ⟨q0, q1, q2⟩ := (hR2.set3 (.int .i64 ((a : Nat) : Int)) (.int .i64 ((b : Nat) : Int)) (.slice A2 ((b) * (a)) cc)).cell3
      go_wp2_with fail
      refine bodyPost_ret (v := .tuple #[.agg #[.int .i64 ((a : Nat) : Int), .int .i64 ((b : Nat) : Int), .slice A2 ((b) * (a)) cc], .int .i64 0]) (by simp [results, Tryd.results23, go_sem, q0, q1, q2]) rfl ?_
      refine ⟨A2, (b) * (a), cc, by rw [HC.out], ?_, below_set3 (below_then hB3.drew hb2) (by omega) _ _ _⟩
      rw [HC.out]
      exact own_set3 (own_base hown2 hB3.drew.size) hR2 (by decide) _ _ _
  · have hcb : (chk W H n != 0) = true := by simpa using hc
    have HC : Hid (shiftG ⟨W, H, bs⟩ dx dy = (Gd.zero, chk W H n)) := by
      have := withChk_bad (g := ⟨W, H, bs⟩) (by unfold chkG; simp only [hn]; exact hc)
      unfold chkG at this
      simp only [hn] at this
      exact this _
    clear hc hn
    go_enter Tryd.func23, Tryd.ntmps23
    go_wp2_with fail
    refine (check_any _ _ _ _ _ _).mono ?_
    rintro e w1 ⟨rfl, hb1⟩
    have hR1 := hR0.keep hb1
    have hB1 := below_then hB0 hb1
    obtain ⟨r0, r1, r2⟩ := hR1.cell3
    obtain ⟨f0, f1, f2⟩ := hR1.frozen3
    obtain ⟨q0, q1, q2⟩ := (hR1.set3 (.int .i64 0) (.int .i64 0) (.slice none 0 0)).cell3
    go_wp2_with fail
    refine bodyPost_ret (v := .tuple #[.agg #[.int .i64 0, .int .i64 0, .slice none 0 0], .int .i64 (chk W H n)]) (by simp [results, Tryd.results23, go_sem, q0, q1, q2]) rfl ?_
    exact bad_ret HC.out (below_set3 hB1 (by omega) _ _ _)

end Go.Proofs.YtebbcpeldncekaaDoor
