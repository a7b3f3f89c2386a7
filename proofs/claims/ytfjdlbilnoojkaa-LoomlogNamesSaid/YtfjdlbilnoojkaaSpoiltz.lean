/- loomlog.spoilt: picks with a fault. -/
import Derived.Test.YtfjdlbilnoojkaaInsertz
import Derived.Test.YtfjdlbilnoojkaaRowsXz
import Derived.Test.YtfjdlbilnoojkaaInvRz
import Derived.Deep.Draws
namespace Go.Proofs.Ytfjdlbilnoojkaa
open Go.RowKit

theorem Blk.cell2b {w : World} {g : Nat} {t : TypeId} {a b : Value} (h : Blk w g t #[a, b]) : w.cell? ⟨g, 0, none⟩ = some a ∧ w.cell? ⟨g, 1, none⟩ = some b := ⟨h.cell 0, h.cell 1⟩
set_option linter.unusedVariables false in
def SP (Wd : World) (gF g k n c B0 : Nat) (A1 : Option Addr) (m1 c1 : Nat) (ys : List Value) : List Bool → List Value → World → Prop
  | [l0, l1, l2, l3, l4, l5, l6, l7, l8, l9, l10], [x0, x1, x2, x3, x4, x5, x6, x7, x8, x9, x10], u => (Below B0 Wd u ∧ (l9 = false → Below Wd.heap.size Wd u)) ∧ (l0 = true → x0 = .slice (some ⟨g, 0, none⟩) n c) ∧ (l1 = true → x1 = .pointer (some ⟨gF, 1, none⟩)) ∧ (l2 = true → x2 = .int .i64 (k : Int)) ∧ (l3 = true → x3 = .slice (some ⟨g, 0, none⟩) n c) ∧ (l4 = true → x4 = .pointer (some ⟨gF, 1, none⟩)) ∧ (l5 = true → x5 = .int .i64 (k : Int)) ∧ (l6 = true → x6 = .pointer (some ⟨g, k, none⟩)) ∧ (l7 = true → x7 = .slice A1 m1 c1) ∧ (l8 = true → l9 = false → l7 = true ∧ ∃ gx : Nat, x8 = .slice (some ⟨gx, 0, none⟩) 1 1 ∧ Blk u gx 23 #[.slice A1 m1 c1] ∧ Wd.heap.size ≤ gx) ∧ (l9 = true → l7 = true ∧ l8 = true ∧ ∃ g' c' : Nat, x9 = .slice (some ⟨g', 0, none⟩) (n + 1) c' ∧ u.ownsRow B0 23 1 (.slice (some ⟨g', 0, none⟩) (n + 1) c') (n + 1) ys) ∧ (l10 = true → l9 = true ∧ x10 = x9)
  | _, _, _ => False
theorem SP_get (Wd : World) (gF g k n c B0 : Nat) (A1 : Option Addr) (m1 c1 : Nat) (ys : List Value) {l0 l1 l2 l3 l4 l5 l6 l7 l8 l9 l10 : Bool} {x0 x1 x2 x3 x4 x5 x6 x7 x8 x9 x10 : Value} {u : World} (hyp : SP Wd gF g k n c B0 A1 m1 c1 ys [l0, l1, l2, l3, l4, l5, l6, l7, l8, l9, l10] [x0, x1, x2, x3, x4, x5, x6, x7, x8, x9, x10] u) : (Below B0 Wd u ∧ (l9 = false → Below Wd.heap.size Wd u)) ∧ (l0 = true → x0 = .slice (some ⟨g, 0, none⟩) n c) ∧ (l1 = true → x1 = .pointer (some ⟨gF, 1, none⟩)) ∧ (l2 = true → x2 = .int .i64 (k : Int)) ∧ (l3 = true → x3 = .slice (some ⟨g, 0, none⟩) n c) ∧ (l4 = true → x4 = .pointer (some ⟨gF, 1, none⟩)) ∧ (l5 = true → x5 = .int .i64 (k : Int)) ∧ (l6 = true → x6 = .pointer (some ⟨g, k, none⟩)) ∧ (l7 = true → x7 = .slice A1 m1 c1) ∧ (l8 = true → l9 = false → l7 = true ∧ ∃ gx : Nat, x8 = .slice (some ⟨gx, 0, none⟩) 1 1 ∧ Blk u gx 23 #[.slice A1 m1 c1] ∧ Wd.heap.size ≤ gx) ∧ (l9 = true → l7 = true ∧ l8 = true ∧ ∃ g' c' : Nat, x9 = .slice (some ⟨g', 0, none⟩) (n + 1) c' ∧ u.ownsRow B0 23 1 (.slice (some ⟨g', 0, none⟩) (n + 1) c') (n + 1) ys) ∧ (l10 = true → l9 = true ∧ x10 = x9) := hyp
theorem SP_mk (Wd : World) (gF g k n c B0 : Nat) (A1 : Option Addr) (m1 c1 : Nat) (ys : List Value) {l0 l1 l2 l3 l4 l5 l6 l7 l8 l9 l10 : Bool} {x0 x1 x2 x3 x4 x5 x6 x7 x8 x9 x10 : Value} {u : World} (hyp : (Below B0 Wd u ∧ (l9 = false → Below Wd.heap.size Wd u)) ∧ (l0 = true → x0 = .slice (some ⟨g, 0, none⟩) n c) ∧ (l1 = true → x1 = .pointer (some ⟨gF, 1, none⟩)) ∧ (l2 = true → x2 = .int .i64 (k : Int)) ∧ (l3 = true → x3 = .slice (some ⟨g, 0, none⟩) n c) ∧ (l4 = true → x4 = .pointer (some ⟨gF, 1, none⟩)) ∧ (l5 = true → x5 = .int .i64 (k : Int)) ∧ (l6 = true → x6 = .pointer (some ⟨g, k, none⟩)) ∧ (l7 = true → x7 = .slice A1 m1 c1) ∧ (l8 = true → l9 = false → l7 = true ∧ ∃ gx : Nat, x8 = .slice (some ⟨gx, 0, none⟩) 1 1 ∧ Blk u gx 23 #[.slice A1 m1 c1] ∧ Wd.heap.size ≤ gx) ∧ (l9 = true → l7 = true ∧ l8 = true ∧ ∃ g' c' : Nat, x9 = .slice (some ⟨g', 0, none⟩) (n + 1) c' ∧ u.ownsRow B0 23 1 (.slice (some ⟨g', 0, none⟩) (n + 1) c') (n + 1) ys) ∧ (l10 = true → l9 = true ∧ x10 = x9)) : SP Wd gF g k n c B0 A1 m1 c1 ys [l0, l1, l2, l3, l4, l5, l6, l7, l8, l9, l10] [x0, x1, x2, x3, x4, x5, x6, x7, x8, x9, x10] u := hyp
theorem SP_b : ∀ l : List Bool, l.length = 11 → ∃ a0 a1 a2 a3 a4 a5 a6 a7 a8 a9 a10, l = [a0, a1, a2, a3, a4, a5, a6, a7, a8, a9, a10]
  | [a0, a1, a2, a3, a4, a5, a6, a7, a8, a9, a10], _ => ⟨a0, a1, a2, a3, a4, a5, a6, a7, a8, a9, a10, rfl⟩
theorem SP_v : ∀ l : List Value, l.length = 11 → ∃ a0 a1 a2 a3 a4 a5 a6 a7 a8 a9 a10, l = [a0, a1, a2, a3, a4, a5, a6, a7, a8, a9, a10]
  | [a0, a1, a2, a3, a4, a5, a6, a7, a8, a9, a10], _ => ⟨a0, a1, a2, a3, a4, a5, a6, a7, a8, a9, a10, rfl⟩
set_option linter.unusedVariables false in
set_option maxHeartbeats 8000000 in
set_option maxRecDepth 100000 in
theorem spoilt_any (ls : List (List Bool)) (A : Option Addr) (n c k : Nat) (q : Int) (lift : List Bool) (Al : Option Addr) (cl : Nat) (w : World) (hln : ls.length = n) (hn : n ≤ 100) (hk : k < n) (hr : LRB w A ls) (hrl : Rd w Al lift.length (lift.map Value.bool)) :
    Calls Try.prog 46 #[.slice A n c, .agg #[.int .u8 q, .int .i64 k], .slice Al lift.length cl] w fun e w' => ∃ A' n' c', e = .returned (.slice A' n' c') ∧ LRB w' A' (spoiltL ls q k lift) ∧ n' = (spoiltL ls q k lift).length ∧ Below w.heap.size w w' := by
  obtain ⟨xs, hx, hrx⟩ := hr.open
  rw [hln] at hx
  have hkl : k < ls.length := by omega
  obtain ⟨b, o, rfl, hb, _⟩ := hx.at_ (by omega)
  have hxl : xs.length = n := hx.1
  have hone := hrx.one
  obtain ⟨A1, c1, hxk, hrr⟩ := hrx.at_ hkl
  have S0 := (St.start w).box #[.int .u8 q, .int .i64 k] 46
  simp only [List.nil_append] at S0
  have HC := Lib.hid (clone2_any ⟨b, o, none⟩ n c xs _ (hx.below S0.below) hone (by omega))
  go_enter Try.func46, Try.ntmps46
  go_wp2_with fail
  refine HC.out.mono ?_
  rintro e w2 ⟨A2, c2, rfl, hown, hb2⟩
  have S2 := S0.keep hb2
  obtain ⟨g, rfl, hg1, hg2, hgc⟩ := own_form hown (by omega)
  obtain ⟨B0, hB0⟩ : ∃ B0, B0 = (w.alloc (.cells #[.int .u8 q, .int .i64 k] 46)).heap.size := ⟨_, rfl⟩
  rw [← hB0] at hown hg1
  have HBW := Lib.hid S2.below
  have HBB : Hid (w.heap.size ≤ B0) := by show _ ≤ _; rw [hB0]; simp
  have hltF : w.heap.size < B0 := by rw [hB0]; simp
  have HB0 : Hid (B0 ≤ w2.heap.size) := by show _ ≤ _; rw [hB0]; exact hb2.size
  clear hB0 HC
  obtain ⟨e0, e1⟩ := (S2.blk 0 rfl).cell2b
  clear hrr
  generalize (ls.getD k []).length = m1 at hxk
  by_cases hq1 : q = 1
  · subst hq1
    have hsp := around hxk
    have HD := Lib.hid (delete_any (xs.take k) (xs.drop (k + 1)) (.slice A1 m1 c1) B0 g c2 k (n - (k + 1)) w2 (by rw [List.length_take]; omega) (by rw [List.length_drop]; omega) (by rw [show k + 1 + (n - (k + 1)) = n by omega, ← hsp.1]; exact hown) (fun u hu => hone u (List.mem_of_mem_drop hu)) (by omega))
    rw [show k + 1 + (n - (k + 1)) = n by omega] at HD
    have hkw : IntKind.i64.wrap ((k : Int) + 1) = (k : Int) + 1 := wrap_small _ (by omega) (by omega)
    clear hsp hown
    go_wp2_with fail
    refine HD.out.mono ?_
    rintro e w3 ⟨rfl, hown3, hb3⟩
    go_wp2_with fail
    go_ret
    have hb9 : Below w.heap.size w w3 := HBW.out.trans (hb3.mono HBB.out)
    exact ⟨_, _, _, rfl, ((hrx.below hb9).del k lift).lrb (rd_of_own hown3), by rw [spoiltL_len hkl, if_pos rfl, hln]; omega, hb9⟩
  have hb1 : (q == 1) = false := by simpa using hq1
  by_cases hq2 : q = 2
  · subst hq2
    have hsp := around hxk
    have hd0 : w2.drew.heap = w2.heap := rfl
    have hownd : w2.drew.ownsRow B0 23 1 (.slice (some ⟨g, 0, none⟩) n c2) n xs := hown
    have HINS := Lib.hid (fun u (gx : Nat) (hu : Below w2.drew.heap.size w2.drew u) (hbx : Blk u gx 23 #[(.slice A1 m1 c1)]) (hlx : w2.drew.heap.size ≤ gx) => show Calls Try.prog 58 #[.slice (some ⟨g, 0, none⟩) n c2, .int .i64 k, .slice (some ⟨gx, 0, none⟩) 1 1] u fun e w' => ∃ g' c', e = .returned (.slice (some ⟨g', 0, none⟩) (n + 1) c') ∧ w'.ownsRow B0 23 1 (.slice (some ⟨g', 0, none⟩) (n + 1) c') (n + 1) (xs.take k ++ (.slice A1 m1 c1) :: xs.drop k) ∧ Below B0 u w' from by
      have h := insert_any (xs.take k) (xs.drop k) (.slice A1 m1 c1) B0 g gx c2 k (n - k) u (by rw [List.length_take]; omega) (by rw [List.length_drop]; omega) (by omega) (by rw [show k + (n - k) = n by omega, List.take_append_drop]; exact own_below hownd hu) hbx (by have h1 : g < w2.drew.heap.size := hg2; omega) (fun u hu => hone u (List.mem_of_mem_drop hu)) (hone (.slice A1 m1 c1) (List.mem_of_getElem? hxk)) (by omega) (Nat.le_trans HB0.out hu.size)
      rw [show k + 1 + (n - k) = n + 1 by omega, show k + (n - k) = n by omega] at h
      exact h)
    have HF2 := Lib.hid (fun u (hu : Below B0 w2.drew u) => show u.cell? ⟨w.heap.size, 0, none⟩ = some (.int .u8 2) ∧ u.cell? ⟨w.heap.size, 1, none⟩ = some (.int .i64 k) from ⟨(hu.cell (p := ⟨w.heap.size, 0, none⟩) hltF).trans e0, (hu.cell (p := ⟨w.heap.size, 1, none⟩) hltF).trans e1⟩)
    have HCL := Lib.hid (fun u (hu : Below w2.drew.heap.size w2.drew u) => show u.cell? ⟨g, k, none⟩ = some (.slice A1 m1 c1) from (hu.cell (p := ⟨g, k, none⟩) hg2).trans ((hown.cellAt k (by omega)).trans hxk))
    clear hsp hown hownd
    go_wp2_with fail
    refine wp_region_invL 11 [some 22, some 23, some 24, some 25, some 26, some 27, some 28, some 29, some 30, some 31, some 6] (SP w2.drew w.heap.size g k n c2 B0 A1 m1 c1 (xs.take k ++ .slice A1 m1 c1 :: xs.drop k)) (by kernel_rfl) rfl rfl (by decide) (by kernel_rfl) (fun xs hx => ?_) (fun i hi => ?_) (fun xs wf hx hG => ?_)
    · obtain ⟨x0, x1, x2, x3, x4, x5, x6, x7, x8, x9, x10, rfl⟩ := SP_v xs hx
      show SP w2.drew w.heap.size g k n c2 B0 A1 m1 c1 (xs.take k ++ .slice A1 m1 c1 :: xs.drop k) [false, false, false, false, false, false, false, false, false, false, false] [x0, x1, x2, x3, x4, x5, x6, x7, x8, x9, x10] _
      refine SP_mk w2.drew w.heap.size g k n c2 B0 A1 m1 c1 (xs.take k ++ .slice A1 m1 c1 :: xs.drop k) ?_
      exact ⟨⟨Below.refl _ _, fun _ => Below.refl _ _⟩, (fun g1 => by cases g1), (fun g1 => by cases g1), (fun g1 => by cases g1), (fun g1 => by cases g1), (fun g1 => by cases g1), (fun g1 => by cases g1), (fun g1 => by cases g1), (fun g1 => by cases g1), (fun g1 => by cases g1), (fun g1 => by cases g1), (fun g1 => by cases g1)⟩
    · match i, hi with
      | 0, _ =>
        intro o ho l xs w1 hl hx hG hi hdep K hK
        obtain rfl := Option.some.inj (ho.symm.trans rfl)
        clear ho
        obtain ⟨l0, l1, l2, l3, l4, l5, l6, l7, l8, l9, l10, rfl⟩ := SP_b l hl
        obtain ⟨x0, x1, x2, x3, x4, x5, x6, x7, x8, x9, x10, rfl⟩ := SP_v xs hx
        obtain rfl : l0 = false := hi
        clear hdep hl hx
        dsimp only [setAll, List.set_cons_zero, List.set_cons_succ] at hK ⊢
        go_simp
        refine hK.out _ _ ?_
        clear hK K
        have hC := SP_get w2.drew w.heap.size g k n c2 B0 A1 m1 c1 (xs.take k ++ .slice A1 m1 c1 :: xs.drop k) hG
        cases hC
        rename_i SD ez1
        cases ez1
        rename_i h0 ez2
        cases ez2
        rename_i h1 ez3
        cases ez3
        rename_i h2 ez4
        cases ez4
        rename_i h3 ez5
        cases ez5
        rename_i h4 ez6
        cases ez6
        rename_i h5 ez7
        cases ez7
        rename_i h6 ez8
        cases ez8
        rename_i h7 ez9
        cases ez9
        rename_i h8 ez10
        cases ez10
        rename_i h9 h10
        refine SP_mk w2.drew w.heap.size g k n c2 B0 A1 m1 c1 (xs.take k ++ .slice A1 m1 c1 :: xs.drop k) ?_
        exact ⟨SD, (fun g1 => rfl), h1, h2, h3, h4, h5, h6, h7, h8, h9, h10⟩
      | 1, _ =>
        intro o ho l xs w1 hl hx hG hi hdep K hK
        obtain rfl := Option.some.inj (ho.symm.trans rfl)
        clear ho
        obtain ⟨l0, l1, l2, l3, l4, l5, l6, l7, l8, l9, l10, rfl⟩ := SP_b l hl
        obtain ⟨x0, x1, x2, x3, x4, x5, x6, x7, x8, x9, x10, rfl⟩ := SP_v xs hx
        obtain rfl : l1 = false := hi
        clear hdep hl hx
        dsimp only [setAll, List.set_cons_zero, List.set_cons_succ] at hK ⊢
        go_simp
        refine hK.out _ _ ?_
        clear hK K
        have hC := SP_get w2.drew w.heap.size g k n c2 B0 A1 m1 c1 (xs.take k ++ .slice A1 m1 c1 :: xs.drop k) hG
        cases hC
        rename_i SD ez11
        cases ez11
        rename_i h0 ez12
        cases ez12
        rename_i h1 ez13
        cases ez13
        rename_i h2 ez14
        cases ez14
        rename_i h3 ez15
        cases ez15
        rename_i h4 ez16
        cases ez16
        rename_i h5 ez17
        cases ez17
        rename_i h6 ez18
        cases ez18
        rename_i h7 ez19
        cases ez19
        rename_i h8 ez20
        cases ez20
        rename_i h9 h10
        refine SP_mk w2.drew w.heap.size g k n c2 B0 A1 m1 c1 (xs.take k ++ .slice A1 m1 c1 :: xs.drop k) ?_
        exact ⟨SD, h0, (fun g1 => rfl), h2, h3, h4, h5, h6, h7, h8, h9, h10⟩
      | 2, _ =>
        intro o ho l xs w1 hl hx hG hi hdep K hK
        obtain rfl := Option.some.inj (ho.symm.trans rfl)
        clear ho
        obtain ⟨l0, l1, l2, l3, l4, l5, l6, l7, l8, l9, l10, rfl⟩ := SP_b l hl
        obtain ⟨x0, x1, x2, x3, x4, x5, x6, x7, x8, x9, x10, rfl⟩ := SP_v xs hx
        obtain rfl : l2 = false := hi
        obtain rfl : l1 = true := hdep 1 (by kernel_rfl)
        clear hdep hl hx
        dsimp only [setAll, List.set_cons_zero, List.set_cons_succ] at hK ⊢
        have hf := SP_get w2.drew w.heap.size g k n c2 B0 A1 m1 c1 (xs.take k ++ .slice A1 m1 c1 :: xs.drop k) hG
        have hB := hf.1.1
        have hF1 := (hf.2.2.1 rfl)
        clear hf
        have hE21 := HF2.out _ hB
        cases hE21
        rename_i e0 e1
        subst hF1
        go_simp
        refine hK.out _ _ ?_
        clear hK K
        have hC := SP_get w2.drew w.heap.size g k n c2 B0 A1 m1 c1 (xs.take k ++ .slice A1 m1 c1 :: xs.drop k) hG
        cases hC
        rename_i SD ez22
        cases ez22
        rename_i h0 ez23
        cases ez23
        rename_i h1 ez24
        cases ez24
        rename_i h2 ez25
        cases ez25
        rename_i h3 ez26
        cases ez26
        rename_i h4 ez27
        cases ez27
        rename_i h5 ez28
        cases ez28
        rename_i h6 ez29
        cases ez29
        rename_i h7 ez30
        cases ez30
        rename_i h8 ez31
        cases ez31
        rename_i h9 h10
        refine SP_mk w2.drew w.heap.size g k n c2 B0 A1 m1 c1 (xs.take k ++ .slice A1 m1 c1 :: xs.drop k) ?_
        exact ⟨SD, h0, h1, (fun g1 => rfl), h3, h4, h5, h6, h7, h8, h9, h10⟩
      | 3, _ =>
        intro o ho l xs w1 hl hx hG hi hdep K hK
        obtain rfl := Option.some.inj (ho.symm.trans rfl)
        clear ho
        obtain ⟨l0, l1, l2, l3, l4, l5, l6, l7, l8, l9, l10, rfl⟩ := SP_b l hl
        obtain ⟨x0, x1, x2, x3, x4, x5, x6, x7, x8, x9, x10, rfl⟩ := SP_v xs hx
        obtain rfl : l3 = false := hi
        clear hdep hl hx
        dsimp only [setAll, List.set_cons_zero, List.set_cons_succ] at hK ⊢
        go_simp
        refine hK.out _ _ ?_
        clear hK K
        have hC := SP_get w2.drew w.heap.size g k n c2 B0 A1 m1 c1 (xs.take k ++ .slice A1 m1 c1 :: xs.drop k) hG
        cases hC
        rename_i SD ez32
        cases ez32
        rename_i h0 ez33
        cases ez33
        rename_i h1 ez34
        cases ez34
        rename_i h2 ez35
        cases ez35
        rename_i h3 ez36
        cases ez36
        rename_i h4 ez37
        cases ez37
        rename_i h5 ez38
        cases ez38
        rename_i h6 ez39
        cases ez39
        rename_i h7 ez40
        cases ez40
        rename_i h8 ez41
        cases ez41
        rename_i h9 h10
        refine SP_mk w2.drew w.heap.size g k n c2 B0 A1 m1 c1 (xs.take k ++ .slice A1 m1 c1 :: xs.drop k) ?_
        exact ⟨SD, h0, h1, h2, (fun g1 => rfl), h4, h5, h6, h7, h8, h9, h10⟩
      | 4, _ =>
        intro o ho l xs w1 hl hx hG hi hdep K hK
        obtain rfl := Option.some.inj (ho.symm.trans rfl)
        clear ho
        obtain ⟨l0, l1, l2, l3, l4, l5, l6, l7, l8, l9, l10, rfl⟩ := SP_b l hl
        obtain ⟨x0, x1, x2, x3, x4, x5, x6, x7, x8, x9, x10, rfl⟩ := SP_v xs hx
        obtain rfl : l4 = false := hi
        clear hdep hl hx
        dsimp only [setAll, List.set_cons_zero, List.set_cons_succ] at hK ⊢
        go_simp
        refine hK.out _ _ ?_
        clear hK K
        have hC := SP_get w2.drew w.heap.size g k n c2 B0 A1 m1 c1 (xs.take k ++ .slice A1 m1 c1 :: xs.drop k) hG
        cases hC
        rename_i SD ez42
        cases ez42
        rename_i h0 ez43
        cases ez43
        rename_i h1 ez44
        cases ez44
        rename_i h2 ez45
        cases ez45
        rename_i h3 ez46
        cases ez46
        rename_i h4 ez47
        cases ez47
        rename_i h5 ez48
        cases ez48
        rename_i h6 ez49
        cases ez49
        rename_i h7 ez50
        cases ez50
        rename_i h8 ez51
        cases ez51
        rename_i h9 h10
        refine SP_mk w2.drew w.heap.size g k n c2 B0 A1 m1 c1 (xs.take k ++ .slice A1 m1 c1 :: xs.drop k) ?_
        exact ⟨SD, h0, h1, h2, h3, (fun g1 => rfl), h5, h6, h7, h8, h9, h10⟩
      | 5, _ =>
        intro o ho l xs w1 hl hx hG hi hdep K hK
        obtain rfl := Option.some.inj (ho.symm.trans rfl)
        clear ho
        obtain ⟨l0, l1, l2, l3, l4, l5, l6, l7, l8, l9, l10, rfl⟩ := SP_b l hl
        obtain ⟨x0, x1, x2, x3, x4, x5, x6, x7, x8, x9, x10, rfl⟩ := SP_v xs hx
        obtain rfl : l5 = false := hi
        obtain rfl : l4 = true := hdep 4 (by kernel_rfl)
        clear hdep hl hx
        dsimp only [setAll, List.set_cons_zero, List.set_cons_succ] at hK ⊢
        have hf := SP_get w2.drew w.heap.size g k n c2 B0 A1 m1 c1 (xs.take k ++ .slice A1 m1 c1 :: xs.drop k) hG
        have hB := hf.1.1
        have hF1 := (hf.2.2.2.2.2.1 rfl)
        clear hf
        have hE52 := HF2.out _ hB
        cases hE52
        rename_i e0 e1
        subst hF1
        go_simp
        refine hK.out _ _ ?_
        clear hK K
        have hC := SP_get w2.drew w.heap.size g k n c2 B0 A1 m1 c1 (xs.take k ++ .slice A1 m1 c1 :: xs.drop k) hG
        cases hC
        rename_i SD ez53
        cases ez53
        rename_i h0 ez54
        cases ez54
        rename_i h1 ez55
        cases ez55
        rename_i h2 ez56
        cases ez56
        rename_i h3 ez57
        cases ez57
        rename_i h4 ez58
        cases ez58
        rename_i h5 ez59
        cases ez59
        rename_i h6 ez60
        cases ez60
        rename_i h7 ez61
        cases ez61
        rename_i h8 ez62
        cases ez62
        rename_i h9 h10
        refine SP_mk w2.drew w.heap.size g k n c2 B0 A1 m1 c1 (xs.take k ++ .slice A1 m1 c1 :: xs.drop k) ?_
        exact ⟨SD, h0, h1, h2, h3, h4, (fun g1 => rfl), h6, h7, h8, h9, h10⟩
      | 6, _ =>
        intro o ho l xs w1 hl hx hG hi hdep K hK
        obtain rfl := Option.some.inj (ho.symm.trans rfl)
        clear ho
        obtain ⟨l0, l1, l2, l3, l4, l5, l6, l7, l8, l9, l10, rfl⟩ := SP_b l hl
        obtain ⟨x0, x1, x2, x3, x4, x5, x6, x7, x8, x9, x10, rfl⟩ := SP_v xs hx
        obtain rfl : l6 = false := hi
        obtain rfl : l3 = true := hdep 3 (by kernel_rfl)
        obtain rfl : l5 = true := hdep 5 (by kernel_rfl)
        clear hdep hl hx
        dsimp only [setAll, List.set_cons_zero, List.set_cons_succ] at hK ⊢
        have hf := SP_get w2.drew w.heap.size g k n c2 B0 A1 m1 c1 (xs.take k ++ .slice A1 m1 c1 :: xs.drop k) hG
        have hF0 := (hf.2.2.2.2.1 rfl)
        have hF1 := (hf.2.2.2.2.2.2.1 rfl)
        clear hf
        subst hF0
        subst hF1
        go_simp
        refine hK.out _ _ ?_
        clear hK K
        have hC := SP_get w2.drew w.heap.size g k n c2 B0 A1 m1 c1 (xs.take k ++ .slice A1 m1 c1 :: xs.drop k) hG
        cases hC
        rename_i SD ez63
        cases ez63
        rename_i h0 ez64
        cases ez64
        rename_i h1 ez65
        cases ez65
        rename_i h2 ez66
        cases ez66
        rename_i h3 ez67
        cases ez67
        rename_i h4 ez68
        cases ez68
        rename_i h5 ez69
        cases ez69
        rename_i h6 ez70
        cases ez70
        rename_i h7 ez71
        cases ez71
        rename_i h8 ez72
        cases ez72
        rename_i h9 h10
        refine SP_mk w2.drew w.heap.size g k n c2 B0 A1 m1 c1 (xs.take k ++ .slice A1 m1 c1 :: xs.drop k) ?_
        exact ⟨SD, h0, h1, h2, h3, h4, h5, (fun g1 => rfl), h7, h8, h9, h10⟩
      | 7, _ =>
        intro o ho l xs w1 hl hx hG hi hdep K hK
        obtain rfl := Option.some.inj (ho.symm.trans rfl)
        clear ho
        obtain ⟨l0, l1, l2, l3, l4, l5, l6, l7, l8, l9, l10, rfl⟩ := SP_b l hl
        obtain ⟨x0, x1, x2, x3, x4, x5, x6, x7, x8, x9, x10, rfl⟩ := SP_v xs hx
        obtain rfl : l7 = false := hi
        obtain rfl : l6 = true := hdep 6 (by kernel_rfl)
        clear hdep hl hx
        dsimp only [setAll, List.set_cons_zero, List.set_cons_succ] at hK ⊢
        have hf := SP_get w2.drew w.heap.size g k n c2 B0 A1 m1 c1 (xs.take k ++ .slice A1 m1 c1 :: xs.drop k) hG
        have hl9 : l9 = false := by
          cases l9 with
          | false => rfl
          | true => exact absurd (hf.2.2.2.2.2.2.2.2.2.2.1 rfl).1 (by decide)
        subst hl9
        have hbw := hf.1.2 rfl
        have hF6 := (hf.2.2.2.2.2.2.2.1 rfl)
        clear hf
        have q0 := HCL.out _ hbw
        subst hF6
        go_simp
        refine hK.out _ _ ?_
        clear hK K
        have hC := SP_get w2.drew w.heap.size g k n c2 B0 A1 m1 c1 (xs.take k ++ .slice A1 m1 c1 :: xs.drop k) hG
        cases hC
        rename_i SD ez73
        cases ez73
        rename_i h0 ez74
        cases ez74
        rename_i h1 ez75
        cases ez75
        rename_i h2 ez76
        cases ez76
        rename_i h3 ez77
        cases ez77
        rename_i h4 ez78
        cases ez78
        rename_i h5 ez79
        cases ez79
        rename_i h6 ez80
        cases ez80
        rename_i h7 ez81
        cases ez81
        rename_i h8 ez82
        cases ez82
        rename_i h9 h10
        refine SP_mk w2.drew w.heap.size g k n c2 B0 A1 m1 c1 (xs.take k ++ .slice A1 m1 c1 :: xs.drop k) ?_
        exact ⟨SD, h0, h1, h2, h3, h4, h5, h6, (fun g1 => rfl), (fun g1 g2 => by obtain ⟨f7, gx, e, b, l⟩ := h8 g1 g2; cases f7), (fun g1 => by obtain ⟨f7, f8, g', c', e, r⟩ := h9 g1; cases f7), h10⟩
      | 8, _ =>
        intro o ho l xs w1 hl hx hG hi hdep K hK
        obtain rfl := Option.some.inj (ho.symm.trans rfl)
        clear ho
        obtain ⟨l0, l1, l2, l3, l4, l5, l6, l7, l8, l9, l10, rfl⟩ := SP_b l hl
        obtain ⟨x0, x1, x2, x3, x4, x5, x6, x7, x8, x9, x10, rfl⟩ := SP_v xs hx
        obtain rfl : l8 = false := hi
        obtain rfl : l7 = true := hdep 7 (by kernel_rfl)
        clear hdep hl hx
        dsimp only [setAll, List.set_cons_zero, List.set_cons_succ] at hK ⊢
        have hf := SP_get w2.drew w.heap.size g k n c2 B0 A1 m1 c1 (xs.take k ++ .slice A1 m1 c1 :: xs.drop k) hG
        have hl9 : l9 = false := by
          cases l9 with
          | false => rfl
          | true => exact absurd (hf.2.2.2.2.2.2.2.2.2.2.1 rfl).2.1 (by decide)
        subst hl9
        have hbw := hf.1.2 rfl
        have hF6 := (hf.2.2.2.2.2.2.2.2.1 rfl)
        clear hf
        subst hF6
        go_simp
        refine hK.out _ _ ?_
        clear hK K
        have hC := SP_get w2.drew w.heap.size g k n c2 B0 A1 m1 c1 (xs.take k ++ .slice A1 m1 c1 :: xs.drop k) hG
        cases hC
        rename_i SD ez83
        cases ez83
        rename_i h0 ez84
        cases ez84
        rename_i h1 ez85
        cases ez85
        rename_i h2 ez86
        cases ez86
        rename_i h3 ez87
        cases ez87
        rename_i h4 ez88
        cases ez88
        rename_i h5 ez89
        cases ez89
        rename_i h6 ez90
        cases ez90
        rename_i h7 ez91
        cases ez91
        rename_i h8 ez92
        cases ez92
        rename_i h9 h10
        have hb := fun ob => (Below.refl w1.heap.size w1).alloc (Nat.le_refl _) ob
        refine SP_mk w2.drew w.heap.size g k n c2 B0 A1 m1 c1 (xs.take k ++ .slice A1 m1 c1 :: xs.drop k) ?_
        exact ⟨⟨SD.1.trans ((hb _).mono (Nat.le_trans HB0.out SD.1.size)), fun g => below_then (SD.2 g) (hb _)⟩, (fun g1 => by obtain e := h0 g1; exact e), (fun g1 => by obtain e := h1 g1; exact e), (fun g1 => by obtain e := h2 g1; exact e), (fun g1 => by obtain e := h3 g1; exact e), (fun g1 => by obtain e := h4 g1; exact e), (fun g1 => by obtain e := h5 g1; exact e), (fun g1 => by obtain e := h6 g1; exact e), (fun g1 => by obtain e := h7 g1; exact e), (fun g1 g2 => ⟨rfl, _, rfl, Blk.new _ _ _, hbw.size⟩), (fun g1 => by obtain ⟨f7, f8, g', c', e, r⟩ := h9 g1; cases f8), (fun g1 => by obtain ⟨f9, e⟩ := h10 g1; exact ⟨f9, e⟩)⟩
      | 9, _ =>
        intro o ho l xs w1 hl hx hG hi hdep K hK
        obtain rfl := Option.some.inj (ho.symm.trans rfl)
        clear ho
        obtain ⟨l0, l1, l2, l3, l4, l5, l6, l7, l8, l9, l10, rfl⟩ := SP_b l hl
        obtain ⟨x0, x1, x2, x3, x4, x5, x6, x7, x8, x9, x10, rfl⟩ := SP_v xs hx
        obtain rfl : l9 = false := hi
        obtain rfl : l0 = true := hdep 0 (by kernel_rfl)
        obtain rfl : l2 = true := hdep 2 (by kernel_rfl)
        obtain rfl : l8 = true := hdep 8 (by kernel_rfl)
        clear hdep hl hx
        dsimp only [setAll, List.set_cons_zero, List.set_cons_succ] at hK ⊢
        have hf := SP_get w2.drew w.heap.size g k n c2 B0 A1 m1 c1 (xs.take k ++ .slice A1 m1 c1 :: xs.drop k) hG
        have hbw := hf.1.2 rfl
        have hF1 := (hf.2.1 rfl)
        have hF2 := (hf.2.2.2.1 rfl)
        have hF3 := (hf.2.2.2.2.2.2.2.2.2.1 rfl rfl)
        clear hf
        subst hF1
        subst hF2
        cases hF3
        rename_i f7 ez93
        cases ez93
        rename_i gx ez94
        cases ez94
        rename_i ez95 ez96
        cases ez96
        rename_i hbx hlx
        subst ez95
        have HI := HINS.out w1 gx hbw hbx hlx
        go_simp
        refine HI.mono ?_
        rintro e wz ⟨g', c', rfl, hown9, hb9⟩
        try go_simp
        refine hK.out _ _ ?_
        clear hK K
        have hC := SP_get w2.drew w.heap.size g k n c2 B0 A1 m1 c1 (xs.take k ++ .slice A1 m1 c1 :: xs.drop k) hG
        cases hC
        rename_i SD ez97
        cases ez97
        rename_i h0 ez98
        cases ez98
        rename_i h1 ez99
        cases ez99
        rename_i h2 ez100
        cases ez100
        rename_i h3 ez101
        cases ez101
        rename_i h4 ez102
        cases ez102
        rename_i h5 ez103
        cases ez103
        rename_i h6 ez104
        cases ez104
        rename_i h7 ez105
        cases ez105
        rename_i h8 ez106
        cases ez106
        rename_i h9 h10
        refine SP_mk w2.drew w.heap.size g k n c2 B0 A1 m1 c1 (xs.take k ++ .slice A1 m1 c1 :: xs.drop k) ?_
        exact ⟨⟨SD.1.trans hb9, fun g => by cases g⟩, h0, h1, h2, h3, h4, h5, h6, h7, (fun _ g2 => by cases g2), (fun g1 => ⟨f7, rfl, g', c', rfl, hown9⟩), (fun g1 => by obtain ⟨f9, e⟩ := h10 g1; cases f9)⟩
      | 10, _ =>
        intro o ho l xs w1 hl hx hG hi hdep K hK
        obtain rfl := Option.some.inj (ho.symm.trans rfl)
        clear ho
        obtain ⟨l0, l1, l2, l3, l4, l5, l6, l7, l8, l9, l10, rfl⟩ := SP_b l hl
        obtain ⟨x0, x1, x2, x3, x4, x5, x6, x7, x8, x9, x10, rfl⟩ := SP_v xs hx
        obtain rfl : l10 = false := hi
        obtain rfl : l0 = true := hdep 0 (by kernel_rfl)
        obtain rfl : l1 = true := hdep 1 (by kernel_rfl)
        obtain rfl : l2 = true := hdep 2 (by kernel_rfl)
        obtain rfl : l3 = true := hdep 3 (by kernel_rfl)
        obtain rfl : l4 = true := hdep 4 (by kernel_rfl)
        obtain rfl : l5 = true := hdep 5 (by kernel_rfl)
        obtain rfl : l6 = true := hdep 6 (by kernel_rfl)
        obtain rfl : l7 = true := hdep 7 (by kernel_rfl)
        obtain rfl : l8 = true := hdep 8 (by kernel_rfl)
        obtain rfl : l9 = true := hdep 9 (by kernel_rfl)
        clear hdep hl hx
        dsimp only [setAll, List.set_cons_zero, List.set_cons_succ] at hK ⊢
        have hf := SP_get w2.drew w.heap.size g k n c2 B0 A1 m1 c1 (xs.take k ++ .slice A1 m1 c1 :: xs.drop k) hG
        have hF0 := (hf.2.2.2.2.2.2.2.2.2.2.1 rfl)
        clear hf
        cases hF0
        rename_i _ ez107
        cases ez107
        rename_i _ ez108
        cases ez108
        rename_i g' ez109
        cases ez109
        rename_i c' ez110
        cases ez110
        rename_i ez111 hown9
        subst ez111
        go_simp
        refine hK.out _ _ ?_
        clear hK K
        have hC := SP_get w2.drew w.heap.size g k n c2 B0 A1 m1 c1 (xs.take k ++ .slice A1 m1 c1 :: xs.drop k) hG
        cases hC
        rename_i SD ez112
        cases ez112
        rename_i h0 ez113
        cases ez113
        rename_i h1 ez114
        cases ez114
        rename_i h2 ez115
        cases ez115
        rename_i h3 ez116
        cases ez116
        rename_i h4 ez117
        cases ez117
        rename_i h5 ez118
        cases ez118
        rename_i h6 ez119
        cases ez119
        rename_i h7 ez120
        cases ez120
        rename_i h8 ez121
        cases ez121
        rename_i h9 h10
        refine SP_mk w2.drew w.heap.size g k n c2 B0 A1 m1 c1 (xs.take k ++ .slice A1 m1 c1 :: xs.drop k) ?_
        exact ⟨SD, h0, h1, h2, h3, h4, h5, h6, h7, (fun _ g2 => by cases g2), h9, (fun g1 => ⟨rfl, rfl⟩)⟩
      | k + 11, h => exact absurd h (by omega)
    · obtain ⟨x0, x1, x2, x3, x4, x5, x6, x7, x8, x9, x10, rfl⟩ := SP_v xs hx
      have hG : SP w2.drew w.heap.size g k n c2 B0 A1 m1 c1 (xs.take k ++ .slice A1 m1 c1 :: xs.drop k) [true, true, true, true, true, true, true, true, true, true, true] [x0, x1, x2, x3, x4, x5, x6, x7, x8, x9, x10] wf := hG
      have hf := SP_get w2.drew w.heap.size g k n c2 B0 A1 m1 c1 (xs.take k ++ .slice A1 m1 c1 :: xs.drop k) hG
      have hF0 := (hf.2.2.2.2.2.2.2.2.2.2.2 rfl)
      have hF1 := (hf.2.2.2.2.2.2.2.2.2.2.1 rfl)
      have hB9 := hf.1.1
      clear hf
      cases hF0
      rename_i _ ez122
      subst ez122
      cases hF1
      rename_i _ ez123
      cases ez123
      rename_i _ ez124
      cases ez124
      rename_i g' ez125
      cases ez125
      rename_i c' ez126
      cases ez126
      rename_i ez127 hown9
      subst ez127
      clear hG hx
      dsimp only [setAll, List.set_cons_zero, List.set_cons_succ]
      go_wp2_with fail
      go_ret
      have hR := rd_of_own hown9
      have hb9 : Below w.heap.size w wf := HBW.out.drew.trans (hB9.mono HBB.out)
      exact ⟨_, _, ⟨_, rfl⟩, ((hrx.below hb9).ins hkl lift hxk).lrb hR, by rw [spoiltL_len hkl, if_neg (by decide), if_pos rfl, hln], hb9⟩
  have hb2' : (q == 2) = false := by simpa using hq2
  by_cases hq3 : q = 3
  · subst hq3
    have hst := (hown.stored k (.slice Al lift.length cl)).1
    have hfz := hown.frozenAt k
    have hca := (hown.cellAt k (by omega)).trans hxk
    have hBs : Below B0 w2 (w2.setCell ⟨g, k, none⟩ (.slice Al lift.length cl)) := (Below.refl B0 w2).setCell (p := ⟨g, k, none⟩) hg1 _
    clear hown
    go_wp2_with fail
    go_ret
    have hb9 : Below w.heap.size w (w2.setCell ⟨g, k, none⟩ (.slice Al lift.length cl)) := HBW.out.trans (hBs.mono HBB.out)
    exact ⟨_, _, _, rfl, ((hrx.below hb9).put k (hrl.below hb9)).lrb (rd_of_own (by simpa using hst)), by rw [spoiltL_len hkl, if_neg (by decide), if_neg (by decide), hln], hb9⟩
  have hb3' : (q == 3) = false := by simpa using hq3
  go_wp2_with fail
  go_ret
  have hsp : spoiltL ls q k lift = ls := by unfold spoiltL; rw [if_neg hq1, if_neg hq2, if_neg hq3]
  exact ⟨_, _, _, rfl, by rw [hsp]; exact (hrx.below HBW.out).lrb (rd_of_own hown), by rw [hsp, hln], HBW.out⟩
end Go.Proofs.Ytfjdlbilnoojkaa
