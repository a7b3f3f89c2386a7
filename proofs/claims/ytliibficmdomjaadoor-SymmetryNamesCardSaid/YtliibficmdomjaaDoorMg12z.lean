/- Parts of the proof, in their order. -/
import Derived.Test.YtliibficmdomjaaDoorGroupPz
import Derived.Test.YtliibficmdomjaaDoorMg8z
import Derived.Test.YtliibficmdomjaaDoorMg9z
/- Whether two planes meet, as a function; the operations of a cloth as a list that can be computed. No program in sight. -/
namespace Go.Proofs.YtliibficmdomjaaDoor
open Go.RowKit

def meetN (g g' : Gd) : Bool :=
  let a := g.w.toNat; let b := g.h.toNat; let a' := g'.w.toNat; let b' := g'.h.toNat
  (List.range a').any fun x => (List.range b').any fun y => (List.range (Nat.lcm a a')).all fun X => (List.range (Nat.lcm b b')).all fun Y => pl a b g.bits (X : Int) (Y : Int) == pl a' b' g'.bits ((X : Int) + (x : Int)) ((Y : Int) + (y : Int))
theorem meetN_iff {g g' : Gd} (h1 : 1 ≤ g.w.toNat) (h2 : 1 ≤ g.h.toNat) (h3 : 1 ≤ g'.w.toNat) (h4 : 1 ≤ g'.h.toNat) : meetN g g' = true ↔ ∃ dx dy : Int, Meets g.w.toNat g.h.toNat g.bits g'.w.toNat g'.h.toNat g'.bits dx dy := by
  unfold meetN
  generalize g.w.toNat = a at *
  generalize g.h.toNat = b at *
  generalize g'.w.toNat = a' at *
  generalize g'.h.toNat = b' at *
  simp only [List.any_eq_true, List.all_eq_true, List.mem_range, beq_iff_eq]
  have r := fun x y : Nat => meets_range (a := a) (b := b) (bs := g.bits) (a' := a') (b' := b') (bs' := g'.bits) (dx := x) (dy := y) (Nat.dvd_lcm_left a a') (Nat.dvd_lcm_right a a') (Nat.dvd_lcm_left b b') (Nat.dvd_lcm_right b b') (Nat.lcm_pos h1 h3) (Nat.lcm_pos h2 h4)
  constructor
  · rintro ⟨x, _, y, _, h⟩
    exact ⟨x, y, (r x y).2 fun X Y hX hY => h X hX Y hY⟩
  · rintro ⟨dx, dy, hm⟩
    have x1 := Int.emod_nonneg dx (show (a' : Int) ≠ 0 by omega)
    have y1 := Int.emod_nonneg dy (show (b' : Int) ≠ 0 by omega)
    have x2 := Int.emod_lt_of_pos dx (show 0 < (a' : Int) by omega)
    have y2 := Int.emod_lt_of_pos dy (show 0 < (b' : Int) by omega)
    refine ⟨(dx % (a' : Int)).toNat, by omega, (dy % (b' : Int)).toNat, by omega, fun X hX Y hY => ?_⟩
    refine (r _ _).1 ?_ X Y hX hY
    intro X Y
    rw [Int.toNat_of_nonneg x1, Int.toNat_of_nonneg y1, hm X Y]
    exact pl_congr (by simp) (by simp)
/-- The operations by which one grid makes the cloth of the other. -/
def alkL (g g' : Gd) : List Int := ((List.range 16).filter fun m => meetN (appT g m) g').map Int.ofNat
theorem app_chk {a b m : Nat} {bs : List Bool} (ha1 : 1 ≤ a) (hb1 : 1 ≤ b) (ha : a ≤ 64) (hb : b ≤ 64) : chkG (appG a b bs m) = 0 := by
  unfold appG appB
  cases m.testBit 2
  · exact chk_tab (by simpa) (by simpa) (by simpa) (by simpa)
  · exact chk_tab (by simpa) (by simpa) (by simpa) (by simpa)
theorem both2_zero {g g' : Gd} (h : chkG g = 0) (h' : chkG g' = 0) : both2 g g' = 0 := by
  unfold both2; rw [if_neg (by omega)]; exact h'
theorem chkG_sides {g : Gd} (h : chkG g = 0) : ∃ a b : Nat, g.w = (a : Int) ∧ g.h = (b : Int) ∧ 1 ≤ a ∧ a ≤ 64 ∧ 1 ≤ b ∧ b ≤ 64 ∧ g.bits.length = b * a := chk_zero h
/-- Any function that tells the operations tells the list. -/
theorem alikeK_of {a b : Nat} {bs : List Bool} {g' : Gd} {S : Nat → Bool} (ha1 : 1 ≤ a) (hb1 : 1 ≤ b) (ha : a ≤ 64) (hb : b ≤ 64) (hg : chkG g' = 0) (hS : ∀ m, m < 16 → (S m = true ↔ Alk a b bs g' m)) {l : List Int} (h : AlikeK a b bs g' 16 l) :
    l = ((List.range 16).filter S).map Int.ofNat := by
  obtain ⟨a', b', e1, e2, h1, _, h2, _, _⟩ := chkG_sides hg
  refine alikeK_filter (fun m hm p e ho => ?_) (Nat.le_refl _) h
  rw [hS m hm]
  exact alk_off (both2_zero (app_chk ha1 hb1 ha hb) hg) (by rw [e1]; simpa) (by rw [e2]; simpa) ho
theorem alikeK_is {a b : Nat} {bs : List Bool} {g' : Gd} (ha1 : 1 ≤ a) (hb1 : 1 ≤ b) (ha : a ≤ 64) (hb : b ≤ 64) (hg : chkG g' = 0) {l : List Int} (h : AlikeK a b bs g' 16 l) : l = alkL ⟨a, b, bs⟩ g' := by
  obtain ⟨a', b', e1, e2, h1, _, h2, _, _⟩ := chkG_sides hg
  refine alikeK_of ha1 hb1 ha hb hg (fun m hm => ?_) h
  obtain ⟨P, Q, hP, hQ, eP, eQ⟩ := appG_sides (bs := bs) (m := m) ha1 hb1
  refine meetN_iff ?_ ?_ (by rw [e1]; simpa) (by rw [e2]; simpa)
  · show 1 ≤ (appG a b bs m).w.toNat
    rw [eP]; exact hP
  · show 1 ≤ (appG a b bs m).h.toNat
    rw [eQ]; exact hQ
theorem startG_zero {g : Gd} (h : startG g = 0) : chkG g = 0 ∧ g.w ≤ 16 ∧ g.h ≤ 16 := by
  unfold startG at h
  by_cases h1 : chkG g = 0
  · rw [if_neg (by omega)] at h
    by_cases h2 : 16 < g.w ∨ 16 < g.h
    · rw [if_pos h2] at h; omega
    · omega
  · rw [if_pos h1] at h; exact absurd h h1
theorem allR_is {g : Gd} {r : List Int × Int} (h0 : startG g = 0) (h : AllR g r) : r = (alkL g g, 0) := by
  unfold AllR at h
  rw [if_neg (by omega)] at h
  obtain ⟨l, h1, h2⟩ := h
  have hc := (startG_zero h0).1
  obtain ⟨a, b, e1, e2, ha1, ha, hb1, hb, _⟩ := chkG_sides hc
  obtain ⟨W, H, bs⟩ := g
  simp only at e1 e2
  subst e1 e2
  simp only [Int.toNat_natCast] at h1
  rw [h2, alikeK_is ha1 hb1 ha hb hc h1]
theorem alikeR_is {g g' : Gd} {r : List Int × Int} (h0 : startG g = 0) (h0' : startG g' = 0) (h : AlikeR g g' r) : r = (alkL g g', 0) := by
  have hc := (startG_zero h0).1
  have hc' := (startG_zero h0').1
  unfold AlikeR start2 at h
  rw [both2_zero hc hc', h0, h0'] at h
  simp only [ne_eq, not_true, if_false] at h
  obtain ⟨l, h1, h2⟩ := h
  obtain ⟨a, b, e1, e2, ha1, ha, hb1, hb, _⟩ := chkG_sides hc
  obtain ⟨W, H, bs⟩ := g
  simp only at e1 e2
  subst e1 e2
  simp only [Int.toNat_natCast] at h1
  rw [h2, alikeK_is ha1 hb1 ha hb hc' h1]
end Go.Proofs.YtliibficmdomjaaDoor
/- symmetry.Apply: an operation applied to any grid. -/
namespace Go.Proofs.YtliibficmdomjaaDoor
open Go.RowKit

set_option maxHeartbeats 1000000 in
theorem apply_any (g : Gd) (op : Int) (A : Option Addr) (n c : Nat) (w : World) (hr : Rd w A n (g.bits.map Value.bool)) :
    Calls Tryd.prog 12 #[.agg #[.int .i64 g.w, .int .i64 g.h, .slice A n c], .int .i64 op] w (RetG (applyG g op) w) := by
  obtain ⟨W, H, bs⟩ := g
  simp only at hr ⊢
  have hn : bs.length = n := by simpa using hr.len
  have hs : startG ⟨W, H, bs⟩ = startN W H n := startG_n hn
  have S0 := (((St.start w).addRd hr).box #[.int .i64 W, .int .i64 H, .slice A n c] 24).box #[.int .i64 0, .int .i64 0, .slice none 0 0] 24
  have S0 := S0.box #[.int .i64 W, .int .i64 H, .slice A n c] 24
  simp only [size_alloc1, List.nil_append, List.cons_append] at S0
  obtain ⟨c0, c1, c2⟩ := (S0.blk 1 rfl).cell3
  by_cases hc : startN W H n = 0
  · obtain ⟨hc1, _, _⟩ := startN_zero hc
    obtain ⟨a, b, rfl, rfl, ha1, ha, hbb, hb, rfl⟩ := chk_zero hc1
    clear hc1
    have hcb : (startN (a : Int) (b : Int) (b * a) != 0) = false := by simpa using hc
    by_cases ho : 0 ≤ op ∧ op < 16
    · obtain ⟨op, rfl⟩ : ∃ k : Nat, op = (k : Int) := ⟨op.toNat, by omega⟩
      have hv : applyG ⟨a, b, bs⟩ (op : Int) = (appG a b bs op, 0) := by
        unfold applyG; rw [if_neg (by omega), if_neg (by omega)]; simp
      rw [hv]
      have ho' : op < 16 := by omega
      have hd : decide ((0 : Int) ≤ (op : Int) ∧ (op : Int) < 16) = true := by simp; omega
      have hn1 : 0 < b * a := Nat.mul_pos hbb ha1
      obtain ⟨bl, o, rfl, hbl, hcs⟩ := hr.at_ hn1
      have HA := Lib.hid (fun WW h => applied_any a b op bl o c bs WW ha1 hbb ha hb ho' h)
      have HD := Lib.hid hd
      clear hs hc hv ho hcs hd
      generalize b * a = n at *
      generalize appG a b bs op = r at *
      obtain ⟨x, y, l⟩ := r
      go_enter Tryd.func12, Tryd.ntmps12
      go_wp2_with fail
      refine (check1_any _ _ _ _ _ _ _ _ (S0.blk 3 rfl)).mono ?_
      rintro e w1 ⟨rfl, hb1⟩
      have S1 := S0.keep hb1
      clear c0 c1 c2
      obtain ⟨c0, c1, c2⟩ := (S1.blk 1 rfl).cell3
      go_wp2_with fail
      refine (is7_to _ _ HD.out).mono ?_
      rintro e w2 ⟨rfl, rfl⟩
      go_wp2_with fail
      refine (HA.out _ (S1.rd 0 rfl)).mono ?_
      rintro e w2 ⟨A2, n2, cc, rfl, hown2, hb2⟩
      simp only at hown2 ⊢
      have hz := (S1.keep hb2).blk 2 rfl
      have hB := (S1.keep hb2).below
      clear c0 c1 c2 HA
      obtain ⟨r0, r1, r2⟩ := hz.cell3
      obtain ⟨f0, f1, f2⟩ := hz.frozen3
      obtain ⟨q0, q1, q2⟩ := (hz.set3 (.int .i64 x) (.int .i64 y) (.slice A2 n2 cc)).cell3
      go_wp2_with fail
      refine bodyPost_ret (v := .tuple #[.agg #[.int .i64 x, .int .i64 y, .slice A2 n2 cc], .int .i64 0]) (by simp [results, Tryd.results12, go_sem, q0, q1, q2]) rfl ?_
      exact ⟨A2, n2, cc, rfl, own_set3 (own_base hown2 S1.size) hz (by decide) _ _ _, below_set3 hB (by omega) _ _ _⟩
    · have hv : applyG ⟨a, b, bs⟩ op = (Gd.zero, 2) := by
        unfold applyG; rw [if_neg (by omega), if_pos (by omega)]
      rw [hv]
      have hd : decide (0 ≤ op ∧ op < 16) = false := by simpa using ho
      have HD := Lib.hid hd
      clear hs hc hv ho hd
      go_enter Tryd.func12, Tryd.ntmps12
      go_wp2_with fail
      refine (check1_any _ _ _ _ _ _ _ _ (S0.blk 3 rfl)).mono ?_
      rintro e w1 ⟨rfl, hb1⟩
      have S1 := S0.keep hb1
      clear c0 c1 c2
      obtain ⟨c0, c1, c2⟩ := (S1.blk 1 rfl).cell3
      go_wp2_with fail
      refine (is7_to _ _ HD.out).mono ?_
      rintro e w2 ⟨rfl, rfl⟩
      have hz := S1.blk 2 rfl
      clear c0 c1 c2
      obtain ⟨r0, r1, r2⟩ := hz.cell3
      obtain ⟨f0, f1, f2⟩ := hz.frozen3
      obtain ⟨q0, q1, q2⟩ := (hz.set3 (.int .i64 0) (.int .i64 0) (.slice none 0 0)).cell3
      go_wp2_with fail
      refine bodyPost_ret (v := .tuple #[.agg #[.int .i64 0, .int .i64 0, .slice none 0 0], .int .i64 2]) (by simp [results, Tryd.results12, go_sem, q0, q1, q2]) rfl ?_
      exact bad_ret rfl (below_set3 S1.below (by omega) _ _ _)
  · have hcb : (startN W H n != 0) = true := by simpa using hc
    have hv : applyG ⟨W, H, bs⟩ op = (Gd.zero, startN W H n) := by
      unfold applyG; rw [hs, if_pos hc]
    rw [hv]
    clear hs hc hv
    go_enter Tryd.func12, Tryd.ntmps12
    go_wp2_with fail
    refine (check1_any _ _ _ _ _ _ _ _ (S0.blk 3 rfl)).mono ?_
    rintro e w1 ⟨rfl, hb1⟩
    have S1 := S0.keep hb1
    clear c0 c1 c2
    obtain ⟨c0, c1, c2⟩ := (S1.blk 1 rfl).cell3
    have hz := S1.blk 2 rfl
    have hB := S1.below
    clear c0 c1 c2
    obtain ⟨r0, r1, r2⟩ := hz.cell3
    obtain ⟨f0, f1, f2⟩ := hz.frozen3
    obtain ⟨q0, q1, q2⟩ := (hz.set3 (.int .i64 0) (.int .i64 0) (.slice none 0 0)).cell3
    go_wp2_with fail
    refine bodyPost_ret (v := .tuple #[.agg #[.int .i64 0, .int .i64 0, .slice none 0 0], .int .i64 (startN W H n)]) (by simp [results, Tryd.results12, go_sem, q0, q1, q2]) rfl ?_
    exact bad_ret rfl (below_set3 hB (by omega) _ _ _)
end Go.Proofs.YtliibficmdomjaaDoor
