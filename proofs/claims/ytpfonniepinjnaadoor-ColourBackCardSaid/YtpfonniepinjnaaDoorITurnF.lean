/- colour.Turn gives the plain result turnI, in new memory, for any image. -/
import Derived.Test.YtpfonniepinjnaaDoorFrontF
import Derived.Test.YtpfonniepinjnaaDoorImCk
namespace Go.Proofs.YtpfonniepinjnaaDoor
open Go.RowKit

theorem turnI1_gives (a b Bg : Nat) (A : Option Addr) (c : Nat) (l : List Int) (w : World) (ha : a ≤ 64) (hb : b ≤ 64)
    (hg : Blk w Bg 24 #[.int .i64 a, .int .i64 b, .slice A (b * a) c]) (hr : Rd w A (b * a) (l.map (Value.int .i64))) :
    GivesI 30 #[.pointer (some ⟨Bg, 0, none⟩)] b a (fun x y => l.getD (x * a + y) 0) w := by
  intro w' x y hbel hx hy
  show Calls _ _ _ _ fun e w'' => e = .returned (.int .i64 (l.getD (x * a + y) 0)) ∧ Below w'.heap.size w' w''
  have hg' := hg.keep hbel
  have hr' := hr.below hbel
  have hl : l.length = b * a := by simpa using hr.len
  have hF : x * a + y < b * a := Pl.cell_lt hy hx
  obtain ⟨i0, i1⟩ := mul_bound (p := (x : Int)) (q := (a : Int)) (by omega) (by omega) (by omega) (by omega)
  obtain ⟨bl, o, rfl, hbl, hc⟩ := hr'.at_ (by omega)
  have hcell := int_read hl hF hc
  generalize l.getD (x * a + y) 0 = r at *
  obtain ⟨c0, c1, c2⟩ := hg'.cell3
  clear hg hr hg' hr' hc hl
  go_enter Tryd.func30, Tryd.ntmps30
  go_wp2
  go_ret
  exact ⟨rfl, Below.refl _ _⟩

/-- What stands behind a valid image. -/
theorem img_open {m : Im} (h : chkI m = 0) : ∃ (a b : Nat) (l : List Int), m = ⟨a, b, l⟩ ∧ 1 ≤ a ∧ a ≤ 64 ∧ 1 ≤ b ∧ b ≤ 64 ∧ l.length = b * a ∧ fineL l = true := by
  obtain ⟨W, H, l⟩ := m
  obtain ⟨a, b, h1, h2, ha1, ha, hb1, hb, hl, hf⟩ := chkI_zero h
  simp only at h1 h2 hl hf
  subst h1 h2
  exact ⟨a, b, l, rfl, ha1, ha, hb1, hb, hl, hf⟩
theorem turnI_mk {a b : Nat} {l : List Int} (h : chkI ⟨a, b, l⟩ = 0) : turnI ⟨a, b, l⟩ = (⟨b, a, Pl.tab b a fun x y => l.getD (x * a + y) 0⟩, 0) := withI_ok h
theorem turnI_bad {m : Im} (h : chkI m ≠ 0) : turnI m = (Im.zero, chkI m) := withI_bad h _

set_option maxHeartbeats 1000000 in
theorem turnI_any (m : Im) (A : Option Addr) (n c : Nat) (w : World) (hr : Rd w A n (m.c.map (Value.int .i64))) (hn : n ≤ 1048576) :
    Calls Tryd.prog 13 #[.agg #[.int .i64 m.w, .int .i64 m.h, .slice A n c]] w (RetI (turnI m) w) := by
  have lb : m.c.length = n := by simpa using hr.len
  have S0 := ((((St.start w).addRd hr).box #[.int .i64 m.w, .int .i64 m.h, .slice A n c] 24).box #[.int .i64 0, .int .i64 0, .slice none 0 0] 24)
  simp only [size_alloc1, List.nil_append, List.cons_append] at S0
  obtain ⟨c0, c1, c2⟩ := (S0.blk 1 rfl).cell3
  have HT := Lib.hid (checkI_any m A n c _ (S0.rd 0 rfl) hn)
  by_cases h0 : chkI m = 0
  · obtain ⟨a, b, l, rfl, ha1, ha, hb1, hb, hl, _⟩ := img_open h0
    have HC := Lib.hid (turnI_mk h0)
    rw [h0] at HT
    simp only at lb HT S0 c0 c1 c2 ⊢
    obtain rfl : n = b * a := by omega
    clear h0 lb hl hr
    have hE := Proofs.enters_of Tryd.func30 (by kernel_rfl) rfl
    go_enter Tryd.func13, Tryd.ntmps13
    go_wp2_with fail
    refine HT.out.mono ?_
    rintro e w1 ⟨rfl, hb1⟩
    have S1 := S0.keep hb1
    clear c0 c1 c2 HT
    obtain ⟨c0, c1, c2⟩ := (S1.blk 1 rfl).cell3
    go_wp2_with fail
    refine (image_any 30 _ _ _ _ w1 hb ha hE (turnI1_gives a b _ A c l w1 ha hb (S1.blk 1 rfl) (S1.rd 0 rfl))).mono ?_
    rintro e w2 ⟨A2, n2, c2', rfl, hown2, hb2⟩
    simp only at hown2 ⊢
    have S2 := S1.keep hb2
    have hR2 := S2.blk 2 rfl
    obtain ⟨r0, r1, r2⟩ := hR2.cell3
    obtain ⟨f0, f1, f2⟩ := hR2.frozen3
    obtain ⟨q0, q1, q2⟩ := (hR2.set3 (.int .i64 b) (.int .i64 a) (.slice A2 n2 c2')).cell3
    clear c0 c1 c2
    go_wp2_with fail
    refine bodyPost_ret (v := .tuple #[.agg #[.int .i64 b, .int .i64 a, .slice A2 n2 c2'], .int .i64 0]) (by simp [results, Tryd.results13, go_sem, q0, q1, q2]) rfl ?_
    refine ⟨A2, n2, c2', by rw [HC.out], ?_, below_set3 S2.below (by omega) _ _ _⟩
    rw [HC.out]
    exact own_set3 (own_base hown2 S1.size) hR2 (by decide) _ _ _
  · have hcb : (chkI m != 0) = true := by simpa using h0
    have HC := Lib.hid (turnI_bad h0)
    clear h0 lb
    generalize chkI m = t at *
    go_enter Tryd.func13, Tryd.ntmps13
    go_wp2_with fail
    refine HT.out.mono ?_
    rintro e w1 ⟨rfl, hb1⟩
    have S1 := S0.keep hb1
    clear c0 c1 c2 HT
    have hR2 := S1.blk 2 rfl
    obtain ⟨r0, r1, r2⟩ := hR2.cell3
    obtain ⟨f0, f1, f2⟩ := hR2.frozen3
    obtain ⟨q0, q1, q2⟩ := (hR2.set3 (.int .i64 0) (.int .i64 0) (.slice none 0 0)).cell3
    go_wp2_with fail
    refine bodyPost_ret (v := .tuple #[.agg #[.int .i64 0, .int .i64 0, .slice none 0 0], .int .i64 t]) (by simp [results, Tryd.results13, go_sem, q0, q1, q2]) rfl ?_
    exact bad_retI HC.out (below_set3 S1.below (by omega) _ _ _)
end Go.Proofs.YtpfonniepinjnaaDoor
