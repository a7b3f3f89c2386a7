/- grid.Part gives the plain result partG, in new memory, for any grid and numbers. -/
import Derived.Test.YtebbcpeldncekaaDoorBuildz
import Derived.Test.YtebbcpeldncekaaDoorMvDefz
namespace Go.Proofs.YtebbcpeldncekaaDoor
open Go.RowKit

theorem part1_gives (px py pw ph Bx By : Nat) (a b Bg : Nat) (A : Option Addr) (c : Nat) (bs : List Bool) (w : World) (ha : a ≤ 64) (hb : b ≤ 64) (hpx : px + pw ≤ a) (hpy : py + ph ≤ b)
    (hg : Blk w Bg 24 #[.int .i64 a, .int .i64 b, .slice A (b * a) c]) (hr : Rd w A (b * a) (bs.map Value.bool)) (hbx : Blk w Bx 3 #[.int .i64 px]) (hby : Blk w By 3 #[.int .i64 py]) :
    Gives 54 #[.pointer (some ⟨Bg, 0, none⟩), .pointer (some ⟨By, 0, none⟩), .pointer (some ⟨Bx, 0, none⟩)] pw ph (fun x y => bs.getD ((py + y) * a + px + x) false) w := by
  intro w' x y hbel hx hy
  show Calls _ _ _ _ fun e w'' => e = .returned (.bool (bs.getD ((py + y) * a + px + x) false)) ∧ Below w'.heap.size w' w''
  have hg' := hg.keep hbel
  have hr' := hr.below hbel
  have hbs : bs.length = b * a := by simpa using hr.len
  have hF : (py + y) * a + px + x < b * a := by
    have := Pl.cell_lt (w := a) (h := b) (x := px + x) (y := py + y) (by omega) (by omega)
    omega
  have hz : (py : Int) + (y : Int) = ((py + y : Nat) : Int) := by omega
  have hz1 : py + y < b := by omega
  generalize py + y = z at *
  obtain ⟨i0, i1⟩ := mul_bound (p := (z : Int)) (q := (a : Int)) (by omega) (by omega) (by omega) (by omega)
  have cx := (hbx.keep hbel).cell 0
  have cy := (hby.keep hbel).cell 0
  clear hbx hby
  have hlt := hF
  obtain ⟨bl, o, rfl, hbl, hc⟩ := hr'.at_ (by omega)
  have hcell := cell_read hbs hlt hc
  obtain ⟨c0, c1, c2⟩ := hg'.cell3
  clear hg hr hg' hr' hc hF hbs
  go_enter Tryd.func54, Tryd.ntmps54
  go_wp2
  go_ret
  exact ⟨rfl, Below.refl _ _⟩

set_option maxHeartbeats 8000000 in
theorem part_any (g : Gd) (x y pw ph : Int) (A : Option Addr) (n c : Nat) (w : World) (hr : Rd w A n (g.bits.map Value.bool)) :
    Calls Tryd.prog 29 #[.agg #[.int .i64 g.w, .int .i64 g.h, .slice A n c], .int .i64 x, .int .i64 y, .int .i64 pw, .int .i64 ph] w (RetG (partG g x y pw ph) w) := by
  obtain ⟨W, H, bs⟩ := g
  simp only at hr ⊢
  have hn : bs.length = n := by simpa using hr.len
  have hG0 : Blk ((((w.alloc (.cells #[.int .i64 W, .int .i64 H, .slice A n c] 24)).alloc (.cells #[.int .i64 x] 3)).alloc (.cells #[.int .i64 y] 3)).alloc (.cells #[.int .i64 0, .int .i64 0, .slice none 0 0] 24)) (w.heap.size) 24 #[.int .i64 W, .int .i64 H, .slice A n c] := by simpa using (((Blk.new w 24 #[.int .i64 W, .int .i64 H, .slice A n c]).alloc (.cells #[.int .i64 x] 3)).alloc (.cells #[.int .i64 y] 3)).alloc (.cells #[.int .i64 0, .int .i64 0, .slice none 0 0] 24)
  have hX0 : Blk ((((w.alloc (.cells #[.int .i64 W, .int .i64 H, .slice A n c] 24)).alloc (.cells #[.int .i64 x] 3)).alloc (.cells #[.int .i64 y] 3)).alloc (.cells #[.int .i64 0, .int .i64 0, .slice none 0 0] 24)) (w.heap.size + 1) 3 #[.int .i64 x] := by simpa using ((Blk.new (w.alloc (.cells #[.int .i64 W, .int .i64 H, .slice A n c] 24)) 3 #[.int .i64 x]).alloc (.cells #[.int .i64 y] 3)).alloc (.cells #[.int .i64 0, .int .i64 0, .slice none 0 0] 24)
  have hY0 : Blk ((((w.alloc (.cells #[.int .i64 W, .int .i64 H, .slice A n c] 24)).alloc (.cells #[.int .i64 x] 3)).alloc (.cells #[.int .i64 y] 3)).alloc (.cells #[.int .i64 0, .int .i64 0, .slice none 0 0] 24)) (w.heap.size + 1 + 1) 3 #[.int .i64 y] := by simpa using (Blk.new ((w.alloc (.cells #[.int .i64 W, .int .i64 H, .slice A n c] 24)).alloc (.cells #[.int .i64 x] 3)) 3 #[.int .i64 y]).alloc (.cells #[.int .i64 0, .int .i64 0, .slice none 0 0] 24)
  have hR0 : Blk ((((w.alloc (.cells #[.int .i64 W, .int .i64 H, .slice A n c] 24)).alloc (.cells #[.int .i64 x] 3)).alloc (.cells #[.int .i64 y] 3)).alloc (.cells #[.int .i64 0, .int .i64 0, .slice none 0 0] 24)) (w.heap.size + 1 + 1 + 1) 24 #[.int .i64 0, .int .i64 0, .slice none 0 0] := by simpa using Blk.new (((w.alloc (.cells #[.int .i64 W, .int .i64 H, .slice A n c] 24)).alloc (.cells #[.int .i64 x] 3)).alloc (.cells #[.int .i64 y] 3)) 24 #[.int .i64 0, .int .i64 0, .slice none 0 0]
  have hB0 : Below w.heap.size w ((((w.alloc (.cells #[.int .i64 W, .int .i64 H, .slice A n c] 24)).alloc (.cells #[.int .i64 x] 3)).alloc (.cells #[.int .i64 y] 3)).alloc (.cells #[.int .i64 0, .int .i64 0, .slice none 0 0] 24)) := ((((Below.refl w.heap.size w).alloc (Nat.le_refl _) (.cells #[.int .i64 W, .int .i64 H, .slice A n c] 24)).alloc (by simp) (.cells #[.int .i64 x] 3)).alloc (by simp; omega) (.cells #[.int .i64 y] 3)).alloc (by simp; omega) (.cells #[.int .i64 0, .int .i64 0, .slice none 0 0] 24)
  by_cases hc : chk W H n = 0
  · obtain ⟨a, b, rfl, rfl, ha1, ha, hbb, hb, rfl⟩ := chk_zero hc
    have hcb : (chk (a : Int) (b : Int) (b * a) != 0) = false := by simpa using hc
    have HS := Lib.hid (fun k => withChk_ok (bs := bs) (a := a) (b := b) (k := k) (by rw [hn]; exact hc))
    clear hc
    have HN := Lib.hid hn; clear hn
    have ha0 : ¬ (a : Int) = 0 := by omega
    have hb0 : ¬ (b : Int) = 0 := by omega
    by_cases k0 : x < 0 ∨ y < 0 ∨ pw < 1 ∨ ph < 1 ∨ (a : Int) < pw ∨ (b : Int) < ph ∨ (a : Int) - pw < x ∨ (b : Int) - ph < y
    · have K0 := Lib.hid k0
      have HC : Hid (partG ⟨a, b, bs⟩ x y pw ph = (Gd.zero, 2)) := by
        exact (HS.out _).trans (if_pos k0)
      go_enter Tryd.func29, Tryd.ntmps29
      go_wp2_with fail
      refine (check_any _ _ _ _ _ _).mono ?_
      rintro e w1 ⟨rfl, hb1⟩
      have hG1 := hG0.keep hb1
      have hX1 := hX0.keep hb1
      have hY1 := hY0.keep hb1
      have hR1 := hR0.keep hb1
      have hB1 := below_then hB0 hb1
      have hr1 := hr.below hB1
      obtain ⟨c0, c1, c2⟩ := hG1.cell3
      have ccX := hX1.cell 0
      have ccY := hY1.cell 0
      obtain ⟨r0, r1, r2⟩ := hR1.cell3
      obtain ⟨f0, f1, f2⟩ := hR1.frozen3
      obtain ⟨q0, q1, q2⟩ := (hR1.set3 (.int .i64 0) (.int .i64 0) (.slice none 0 0)).cell3
      go_wp2_with fail
      all_goals first | (exfalso; have := K0.out; omega) | skip
      all_goals
        refine bodyPost_ret (v := .tuple #[.agg #[.int .i64 0, .int .i64 0, .slice none 0 0], .int .i64 2]) (by simp [results, Tryd.results29, go_sem, q0, q1, q2]) rfl ?_
        exact bad_ret HC.out (below_set3 hB1 (by omega) _ _ _)
    have hP : partG ⟨a, b, bs⟩ x y pw ph = tabG pw.toNat ph.toNat fun i k => bs.getD ((y.toNat + k) * a + x.toNat + i) false := (HS.out _).trans (if_neg k0)
    obtain ⟨px, rfl⟩ : ∃ k : Nat, x = (k : Int) := ⟨x.toNat, by omega⟩
    obtain ⟨py, rfl⟩ : ∃ k : Nat, y = (k : Int) := ⟨y.toNat, by omega⟩
    obtain ⟨p, rfl⟩ : ∃ k : Nat, pw = (k : Int) := ⟨pw.toNat, by omega⟩
    obtain ⟨q, rfl⟩ : ∃ k : Nat, ph = (k : Int) := ⟨ph.toNat, by omega⟩
    simp only [Int.toNat_natCast] at hP
    have HT := Lib.hid hP
    clear hP
    have k1 : px + p ≤ a := by omega
    have k2 : py + q ≤ b := by omega
    have k3 : 1 ≤ p := by omega
    have k4 : 1 ≤ q := by omega
    have hp : p ≤ 64 := by omega
    have hq : q ≤ 64 := by omega
    clear k0
    have HC : Hid (partG ⟨a, b, bs⟩ px py p q = (⟨((p : Nat) : Int), ((q : Nat) : Int), Pl.tab (p) (q) fun i k => bs.getD ((py + k) * a + px + i) false⟩, 0)) := by
      exact HT.out
    have hE := Proofs.enters_of Tryd.func54 (by kernel_rfl) rfl
    go_enter Tryd.func29, Tryd.ntmps29
    go_wp2_with fail
    refine (check_any _ _ _ _ _ _).mono ?_
    rintro e w1 ⟨rfl, hb1⟩
    have hG1 := hG0.keep hb1
    have hX1 := hX0.keep hb1
    have hY1 := hY0.keep hb1
    have hR1 := hR0.keep hb1
    have hB1 := below_then hB0 hb1
    have hr1 := hr.below hB1
    obtain ⟨c0, c1, c2⟩ := hG1.cell3
    have ccX := hX1.cell 0
    have ccY := hY1.cell 0
    go_wp2_with fail
    all_goals
      refine (build_any 54 _ p q _ w1 hp hq hE (part1_gives px py p q _ _ a b _ A c bs w1 ha hb k1 k2 hG1 hr1 hX1 hY1)).mono ?_
      rintro e w2 ⟨A2, cc, rfl, hown2, hb2⟩
      clear c0 c1 c2
      have hR2 := hR1.keep hb2
      obtain ⟨r0, r1, r2⟩ := hR2.cell3
      obtain ⟨f0, f1, f2⟩ := hR2.frozen3
      obtain ⟨q0, q1, q2⟩ := (hR2.set3 (.int .i64 ((p : Nat) : Int)) (.int .i64 ((q : Nat) : Int)) (.slice A2 ((q) * (p)) cc)).cell3
      go_wp2_with fail
      refine bodyPost_ret (v := .tuple #[.agg #[.int .i64 ((p : Nat) : Int), .int .i64 ((q : Nat) : Int), .slice A2 ((q) * (p)) cc], .int .i64 0]) (by simp [results, Tryd.results29, go_sem, q0, q1, q2]) rfl ?_
      refine ⟨A2, (q) * (p), cc, by rw [HC.out], ?_, below_set3 (below_then hB1 hb2) (by omega) _ _ _⟩
      rw [HC.out]
      exact own_set3 (own_base hown2 hB1.size) hR2 (by decide) _ _ _
  · have hcb : (chk W H n != 0) = true := by simpa using hc
    have HC : Hid (partG ⟨W, H, bs⟩ x y pw ph = (Gd.zero, chk W H n)) := by
      have := withChk_bad (g := ⟨W, H, bs⟩) (by unfold chkG; simp only [hn]; exact hc)
      unfold chkG at this
      simp only [hn] at this
      exact this _
    clear hc hn
    go_enter Tryd.func29, Tryd.ntmps29
    go_wp2_with fail
    refine (check_any _ _ _ _ _ _).mono ?_
    rintro e w1 ⟨rfl, hb1⟩
    have hR1 := hR0.keep hb1
    have hB1 := below_then hB0 hb1
    obtain ⟨r0, r1, r2⟩ := hR1.cell3
    obtain ⟨f0, f1, f2⟩ := hR1.frozen3
    obtain ⟨q0, q1, q2⟩ := (hR1.set3 (.int .i64 0) (.int .i64 0) (.slice none 0 0)).cell3
    go_wp2_with fail
    refine bodyPost_ret (v := .tuple #[.agg #[.int .i64 0, .int .i64 0, .slice none 0 0], .int .i64 (chk W H n)]) (by simp [results, Tryd.results29, go_sem, q0, q1, q2]) rfl ?_
    exact bad_ret HC.out (below_set3 hB1 (by omega) _ _ _)

end Go.Proofs.YtebbcpeldncekaaDoor
