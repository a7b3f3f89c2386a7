/- raddleref20.Replay. -/
import Derived.Test.YtfjdlbilnoojkaaWoven
import Derived.Test.YtfjdlbilnoojkaaReplay
import Derived.Test.YtfjdlbilnoojkaaInvR
import Derived.Deep.Draws
namespace Go.Proofs.Ytfjdlbilnoojkaa
open Go.RowKit

theorem want_step {c : Prop} [Decidable c] {p q : Prop} (hc : c) (h : p) : if c then p else q := by rw [if_pos hc]; exact h
set_option linter.unusedVariables false in
def RP (w Wd : World) (gR a h m cB : Nat) (B : Option Addr) (bs : List Bool) : List Bool → List Value → World → Prop
  | [l0, l1, l2, l3, l4, l5, l6, l7, l8, l9, l10], [x0, x1, x2, x3, x4, x5, x6, x7, x8, x9, x10], u => (l9 = false → Below Wd.heap.size Wd u) ∧ (l0 = true → x0 = .int .i64 (a : Int)) ∧ (l1 = true → x1 = .slice B m cB) ∧ (l2 = true → x2 = .int .i64 (m : Int)) ∧ (l3 = true → x3 = .int .i64 (a : Int)) ∧ (l4 = true → x4 = .int .i64 (h : Int)) ∧ (l5 = true → l7 = false → ∃ g : Nat, x5 = .slice (some ⟨g, 0, none⟩) 0 0 ∧ u.ownsRow Wd.heap.size 4 1 (.slice (some ⟨g, 0, none⟩) 0 0) 0 []) ∧ (l6 = true → x6 = .slice B m cB) ∧ (l7 = true → l8 = false → ∃ (A' : Option Addr) (c' : Nat), x7 = .slice A' m c' ∧ u.ownsRow Wd.heap.size 4 1 (.slice A' m c') m (bs.map Value.bool)) ∧ (l8 = true → l9 = false → l7 = true ∧ ∃ (A' : Option Addr) (c' : Nat), x8 = .agg #[.int .i64 (a : Int), .int .i64 (h : Int), .slice A' m c'] ∧ u.ownsRow Wd.heap.size 4 1 (.slice A' m c') m (bs.map Value.bool)) ∧ (l9 = true → (l5 = true ∧ l7 = true) ∧ ∃ (A' : Option Addr) (c' : Nat), Below w.heap.size w u ∧ u.ownsRow Wd.heap.size 4 1 (.slice A' m c') m (bs.map Value.bool) ∧ Blk u gR 25 #[.int .i64 (a : Int), .int .i64 (h : Int), .slice A' m c']) ∧ (l10 = true → x10 = .int .i64 0)
  | _, _, _ => False
theorem RP_get (w Wd : World) (gR a h m cB : Nat) (B : Option Addr) (bs : List Bool) {l0 l1 l2 l3 l4 l5 l6 l7 l8 l9 l10 : Bool} {x0 x1 x2 x3 x4 x5 x6 x7 x8 x9 x10 : Value} {u : World} (hyp : RP w Wd gR a h m cB B bs [l0, l1, l2, l3, l4, l5, l6, l7, l8, l9, l10] [x0, x1, x2, x3, x4, x5, x6, x7, x8, x9, x10] u) : (l9 = false → Below Wd.heap.size Wd u) ∧ (l0 = true → x0 = .int .i64 (a : Int)) ∧ (l1 = true → x1 = .slice B m cB) ∧ (l2 = true → x2 = .int .i64 (m : Int)) ∧ (l3 = true → x3 = .int .i64 (a : Int)) ∧ (l4 = true → x4 = .int .i64 (h : Int)) ∧ (l5 = true → l7 = false → ∃ g : Nat, x5 = .slice (some ⟨g, 0, none⟩) 0 0 ∧ u.ownsRow Wd.heap.size 4 1 (.slice (some ⟨g, 0, none⟩) 0 0) 0 []) ∧ (l6 = true → x6 = .slice B m cB) ∧ (l7 = true → l8 = false → ∃ (A' : Option Addr) (c' : Nat), x7 = .slice A' m c' ∧ u.ownsRow Wd.heap.size 4 1 (.slice A' m c') m (bs.map Value.bool)) ∧ (l8 = true → l9 = false → l7 = true ∧ ∃ (A' : Option Addr) (c' : Nat), x8 = .agg #[.int .i64 (a : Int), .int .i64 (h : Int), .slice A' m c'] ∧ u.ownsRow Wd.heap.size 4 1 (.slice A' m c') m (bs.map Value.bool)) ∧ (l9 = true → (l5 = true ∧ l7 = true) ∧ ∃ (A' : Option Addr) (c' : Nat), Below w.heap.size w u ∧ u.ownsRow Wd.heap.size 4 1 (.slice A' m c') m (bs.map Value.bool) ∧ Blk u gR 25 #[.int .i64 (a : Int), .int .i64 (h : Int), .slice A' m c']) ∧ (l10 = true → x10 = .int .i64 0) := hyp
theorem RP_mk (w Wd : World) (gR a h m cB : Nat) (B : Option Addr) (bs : List Bool) {l0 l1 l2 l3 l4 l5 l6 l7 l8 l9 l10 : Bool} {x0 x1 x2 x3 x4 x5 x6 x7 x8 x9 x10 : Value} {u : World} (hyp : (l9 = false → Below Wd.heap.size Wd u) ∧ (l0 = true → x0 = .int .i64 (a : Int)) ∧ (l1 = true → x1 = .slice B m cB) ∧ (l2 = true → x2 = .int .i64 (m : Int)) ∧ (l3 = true → x3 = .int .i64 (a : Int)) ∧ (l4 = true → x4 = .int .i64 (h : Int)) ∧ (l5 = true → l7 = false → ∃ g : Nat, x5 = .slice (some ⟨g, 0, none⟩) 0 0 ∧ u.ownsRow Wd.heap.size 4 1 (.slice (some ⟨g, 0, none⟩) 0 0) 0 []) ∧ (l6 = true → x6 = .slice B m cB) ∧ (l7 = true → l8 = false → ∃ (A' : Option Addr) (c' : Nat), x7 = .slice A' m c' ∧ u.ownsRow Wd.heap.size 4 1 (.slice A' m c') m (bs.map Value.bool)) ∧ (l8 = true → l9 = false → l7 = true ∧ ∃ (A' : Option Addr) (c' : Nat), x8 = .agg #[.int .i64 (a : Int), .int .i64 (h : Int), .slice A' m c'] ∧ u.ownsRow Wd.heap.size 4 1 (.slice A' m c') m (bs.map Value.bool)) ∧ (l9 = true → (l5 = true ∧ l7 = true) ∧ ∃ (A' : Option Addr) (c' : Nat), Below w.heap.size w u ∧ u.ownsRow Wd.heap.size 4 1 (.slice A' m c') m (bs.map Value.bool) ∧ Blk u gR 25 #[.int .i64 (a : Int), .int .i64 (h : Int), .slice A' m c']) ∧ (l10 = true → x10 = .int .i64 0)) : RP w Wd gR a h m cB B bs [l0, l1, l2, l3, l4, l5, l6, l7, l8, l9, l10] [x0, x1, x2, x3, x4, x5, x6, x7, x8, x9, x10] u := hyp
theorem RP_b : ∀ l : List Bool, l.length = 11 → ∃ a0 a1 a2 a3 a4 a5 a6 a7 a8 a9 a10, l = [a0, a1, a2, a3, a4, a5, a6, a7, a8, a9, a10]
  | [a0, a1, a2, a3, a4, a5, a6, a7, a8, a9, a10], _ => ⟨a0, a1, a2, a3, a4, a5, a6, a7, a8, a9, a10, rfl⟩
theorem RP_v : ∀ l : List Value, l.length = 11 → ∃ a0 a1 a2 a3 a4 a5 a6 a7 a8 a9 a10, l = [a0, a1, a2, a3, a4, a5, a6, a7, a8, a9, a10]
  | [a0, a1, a2, a3, a4, a5, a6, a7, a8, a9, a10], _ => ⟨a0, a1, a2, a3, a4, a5, a6, a7, a8, a9, a10, rfl⟩
set_option linter.unusedVariables false in
set_option maxHeartbeats 4000000 in
set_option maxRecDepth 100000 in
theorem rreplay_any (N : Int) (lg : List Ev) (A : Option Addr) (n c : Nat) (w : World) (hr : LogR w A n lg) :
    Calls Try.prog 14 #[.int .i64 N, .slice A n c] w (RetG (replayG N lg) w) := by
  obtain ⟨i0, hi0, hz0, hz1, hz2⟩ := info_parts Try.infoB
  have hFA := Lib.hid (fun (h : (runE N lg).1 = 0) => show ∃ a : Nat, N = (a : Int) ∧ 1 ≤ a ∧ a ≤ 40 ∧ RowsN a (runE N lg).2 ∧ (runE N lg).2.length ≤ 64 from by
    have hN := runE_N h
    have h1 := runE_rows (N := N.toNat) (l := lg)
    rw [show ((N.toNat : Nat) : Int) = N by omega] at h1
    exact ⟨N.toNat, by omega, by omega, by omega, h1.1, h1.2⟩)
  have hERR := Lib.hid (fun (h : (runE N lg).1 ≠ 0) => show (runE N lg).2 = [] from by
    unfold runE at h ⊢
    split
    · rfl
    · split
      · rfl
      · rename_i h1 h2
        rw [if_neg h1, if_neg h2] at h
        exact absurd rfl h)
  have hE1 := Lib.hid (replayG_err (N := N) (l := lg))
  have hE2 := Lib.hid (replayG_none (N := N) (l := lg))
  have hE3 := Lib.hid (replayG_ok (N := N) (l := lg))
  have S0 := (St.start w).box #[.int .i64 0, .int .i64 0, .slice none 0 0] 25
  simp only [List.nil_append] at S0
  have HR1 := Lib.hid (woven_any N lg A n c _ (hr.below S0.below))
  clear hr
  unfold WovRet at HR1
  generalize replayG N lg = R at *
  generalize runE N lg = E at *
  obtain ⟨t, ps⟩ := E
  simp only at HR1 hFA hERR hE1 hE2 hE3
  go_enter Try.func14, Try.ntmps14
  go_wp2_with fail
  refine HR1.out.mono ?_
  rintro e w1 ⟨B, m, cB, rfl, hown, hb1⟩
  have S1 := S0.keep hb1
  by_cases ht : t = 0
  · subst ht
    obtain ⟨a, rfl, ha1, ha, hrows, h64⟩ := hFA.out rfl
    obtain ⟨BS, hBS⟩ : ∃ BS, BS = bitsOf ps := ⟨_, rfl⟩
    have hrd0 := rd_of_own hown
    rw [show ps.flatten = BS from hBS.symm] at hrd0
    have HRD := Lib.hid (fun u (hb : Below w1.heap.size w1 u) => hrd0.below hb)
    obtain ⟨h, hh⟩ : ∃ h, ps.length = h := ⟨_, rfl⟩
    have hml : m = h * a := by
      have h1 := hrd0.len
      rw [List.length_map, hBS, show (bitsOf ps).length = _ from flat_len hrows, hh] at h1
      exact h1.symm
    have hm64 : m ≤ 2560 := by rw [hml]; exact Nat.le_trans (Nat.mul_le_mul (show h ≤ 64 by omega) ha) (by decide)
    have HPL := Lib.hid hh
    by_cases hps : ps = []
    · subst hps
      obtain rfl : h = 0 := by simpa using hh.symm
      obtain rfl : m = 0 := by simpa using hml
      have hR := Lib.hid (hE2.out rfl rfl)
      obtain ⟨c0, c1, c2⟩ := (S1.blk 0 rfl).cell3
      obtain ⟨f0, f1, f2⟩ := (S1.blk 0 rfl).frozen3
      obtain ⟨q0, q1, q2⟩ := ((S1.blk 0 rfl).set3 (.int .i64 0) (.int .i64 0) (.slice none 0 0)).cell3
      clear hE1 hE2 hE3 hFA hERR hrows hrd0 hown hml hm64 hh hBS HRD
      go_wp2_with fail
      refine bodyPost_ret (v := .tuple #[.agg #[.int .i64 0, .int .i64 0, .slice none 0 0], .int .i64 22]) (by simp [results, Try.results14, go_sem, q0, q1, q2]) rfl ?_
      rw [hR.out]
      exact ⟨none, 0, 0, rfl, World.ownsRow_nil _ _ _ _, below_set3 S1.below (Nat.le_refl _) _ _ _⟩
    · have hR := Lib.hid (hE3.out rfl hps)
      have hn0 : h ≠ 0 := by rintro rfl; exact hps (List.eq_nil_of_length_eq_zero hh)
      have hm0 : m ≠ 0 := by rw [hml]; exact Nat.ne_of_gt (Nat.mul_pos (by omega) ha1)
      have HQ1 : Hid ((m : Int).tdiv (a : Int) = (h : Int)) := by
        show _ = _
        rw [hml, Int.tdiv_eq_ediv_of_nonneg (by omega), ← Int.natCast_ediv, Nat.mul_div_cancel _ (by omega)]
      have HQ2 : Hid ((m : Int) / (a : Int) = (h : Int)) := by
        show _ = _
        rw [hml, ← Int.natCast_ediv, Nat.mul_div_cancel _ (by omega)]
      have ha0 : ¬ (a : Int) = 0 := by omega
      have hmb : ((m : Int) == 0) = false := by simpa using hm0
      have HBS := Lib.hid hBS
      have ha00 : a ≠ 0 := by omega
      have hwh : IntKind.i64.wrap (h : Int) = (h : Int) := wrap_small _ (by omega) (by omega)
      have hh64 : h ≤ 64 := by omega
      clear hE1 hE2 hE3 hFA hERR hps hrows hrd0 hown hh h64 hml hBS
      go_wp2_with fail
      refine wp_region_invL 11 [some 22, some 23, some 24, some 25, some 26, some 27, some 28, some 29, some 30, none, some 5] (RP w w1 w.heap.size a h m cB B BS) (by kernel_rfl) rfl rfl (by decide) (by kernel_rfl) (fun xs hx => ?_) (fun i hi => ?_) (fun xs wf hx hG => ?_)
      · obtain ⟨x0, x1, x2, x3, x4, x5, x6, x7, x8, x9, x10, rfl⟩ := RP_v xs hx
        show RP w w1 w.heap.size a h m cB B BS [false, false, false, false, false, false, false, false, false, false, false] [x0, x1, x2, x3, x4, x5, x6, x7, x8, x9, x10] _
        refine RP_mk w w1 w.heap.size a h m cB B BS ?_
        exact ⟨fun _ => (Below.refl _ _).drew, (fun g1 => by cases g1), (fun g1 => by cases g1), (fun g1 => by cases g1), (fun g1 => by cases g1), (fun g1 => by cases g1), (fun g1 => by cases g1), (fun g1 => by cases g1), (fun g1 => by cases g1), (fun g1 => by cases g1), (fun g1 => by cases g1), (fun g1 => by cases g1)⟩
      · match i, hi with
        | 0, _ =>
          intro o ho l xs w2 hl hx hG hi hdep K hK
          obtain rfl := Option.some.inj (ho.symm.trans rfl)
          clear ho
          obtain ⟨l0, l1, l2, l3, l4, l5, l6, l7, l8, l9, l10, rfl⟩ := RP_b l hl
          obtain ⟨x0, x1, x2, x3, x4, x5, x6, x7, x8, x9, x10, rfl⟩ := RP_v xs hx
          obtain rfl : l0 = false := hi
          clear hdep hl hx
          dsimp only [setAll, List.set_cons_zero, List.set_cons_succ] at hK ⊢
          go_simp
          refine hK.out _ _ ?_
          clear hK K
          obtain ⟨SD, h0, h1, h2, h3, h4, h5, h6, h7, h8, h9, h10⟩ := RP_get w w1 w.heap.size a h m cB B BS hG
          refine RP_mk w w1 w.heap.size a h m cB B BS ?_
          exact ⟨SD, (fun g1 => rfl), h1, h2, h3, h4, h5, h6, h7, h8, h9, h10⟩
        | 1, _ =>
          intro o ho l xs w2 hl hx hG hi hdep K hK
          obtain rfl := Option.some.inj (ho.symm.trans rfl)
          clear ho
          obtain ⟨l0, l1, l2, l3, l4, l5, l6, l7, l8, l9, l10, rfl⟩ := RP_b l hl
          obtain ⟨x0, x1, x2, x3, x4, x5, x6, x7, x8, x9, x10, rfl⟩ := RP_v xs hx
          obtain rfl : l1 = false := hi
          clear hdep hl hx
          dsimp only [setAll, List.set_cons_zero, List.set_cons_succ] at hK ⊢
          go_simp
          refine hK.out _ _ ?_
          clear hK K
          obtain ⟨SD, h0, h1, h2, h3, h4, h5, h6, h7, h8, h9, h10⟩ := RP_get w w1 w.heap.size a h m cB B BS hG
          refine RP_mk w w1 w.heap.size a h m cB B BS ?_
          exact ⟨SD, h0, (fun g1 => rfl), h2, h3, h4, h5, h6, h7, h8, h9, h10⟩
        | 2, _ =>
          intro o ho l xs w2 hl hx hG hi hdep K hK
          obtain rfl := Option.some.inj (ho.symm.trans rfl)
          clear ho
          obtain ⟨l0, l1, l2, l3, l4, l5, l6, l7, l8, l9, l10, rfl⟩ := RP_b l hl
          obtain ⟨x0, x1, x2, x3, x4, x5, x6, x7, x8, x9, x10, rfl⟩ := RP_v xs hx
          obtain rfl : l2 = false := hi
          obtain rfl : l1 = true := hdep 1 (by kernel_rfl)
          clear hdep hl hx
          dsimp only [setAll, List.set_cons_zero, List.set_cons_succ] at hK ⊢
          have hf := RP_get w w1 w.heap.size a h m cB B BS hG
          obtain rfl := (hf.2.2.1 rfl)
          clear hf
          go_simp
          refine hK.out _ _ ?_
          clear hK K
          obtain ⟨SD, h0, h1, h2, h3, h4, h5, h6, h7, h8, h9, h10⟩ := RP_get w w1 w.heap.size a h m cB B BS hG
          refine RP_mk w w1 w.heap.size a h m cB B BS ?_
          exact ⟨SD, h0, h1, (fun g1 => rfl), h3, h4, h5, h6, h7, h8, h9, h10⟩
        | 3, _ =>
          intro o ho l xs w2 hl hx hG hi hdep K hK
          obtain rfl := Option.some.inj (ho.symm.trans rfl)
          clear ho
          obtain ⟨l0, l1, l2, l3, l4, l5, l6, l7, l8, l9, l10, rfl⟩ := RP_b l hl
          obtain ⟨x0, x1, x2, x3, x4, x5, x6, x7, x8, x9, x10, rfl⟩ := RP_v xs hx
          obtain rfl : l3 = false := hi
          clear hdep hl hx
          dsimp only [setAll, List.set_cons_zero, List.set_cons_succ] at hK ⊢
          go_simp
          refine hK.out _ _ ?_
          clear hK K
          obtain ⟨SD, h0, h1, h2, h3, h4, h5, h6, h7, h8, h9, h10⟩ := RP_get w w1 w.heap.size a h m cB B BS hG
          refine RP_mk w w1 w.heap.size a h m cB B BS ?_
          exact ⟨SD, h0, h1, h2, (fun g1 => rfl), h4, h5, h6, h7, h8, h9, h10⟩
        | 4, _ =>
          intro o ho l xs w2 hl hx hG hi hdep K hK
          obtain rfl := Option.some.inj (ho.symm.trans rfl)
          clear ho
          obtain ⟨l0, l1, l2, l3, l4, l5, l6, l7, l8, l9, l10, rfl⟩ := RP_b l hl
          obtain ⟨x0, x1, x2, x3, x4, x5, x6, x7, x8, x9, x10, rfl⟩ := RP_v xs hx
          obtain rfl : l4 = false := hi
          obtain rfl : l2 = true := hdep 2 (by kernel_rfl)
          obtain rfl : l3 = true := hdep 3 (by kernel_rfl)
          clear hdep hl hx
          dsimp only [setAll, List.set_cons_zero, List.set_cons_succ] at hK ⊢
          have hf := RP_get w w1 w.heap.size a h m cB B BS hG
          obtain rfl := (hf.2.2.2.1 rfl)
          obtain rfl := (hf.2.2.2.2.1 rfl)
          have hq1 := HQ1.out
          have hq2 := HQ2.out
          clear hf
          go_simp
          refine hK.out _ _ ?_
          clear hK K
          obtain ⟨SD, h0, h1, h2, h3, h4, h5, h6, h7, h8, h9, h10⟩ := RP_get w w1 w.heap.size a h m cB B BS hG
          refine RP_mk w w1 w.heap.size a h m cB B BS ?_
          exact ⟨SD, h0, h1, h2, h3, (fun g1 => rfl), h5, h6, h7, h8, h9, h10⟩
        | 5, _ =>
          intro o ho l xs w2 hl hx hG hi hdep K hK
          obtain rfl := Option.some.inj (ho.symm.trans rfl)
          clear ho
          obtain ⟨l0, l1, l2, l3, l4, l5, l6, l7, l8, l9, l10, rfl⟩ := RP_b l hl
          obtain ⟨x0, x1, x2, x3, x4, x5, x6, x7, x8, x9, x10, rfl⟩ := RP_v xs hx
          obtain rfl : l5 = false := hi
          clear hdep hl hx
          dsimp only [setAll, List.set_cons_zero, List.set_cons_succ] at hK ⊢
          have hf := RP_get w w1 w.heap.size a h m cB B BS hG
          have hl9 : l9 = false := by
            cases l9 with
            | false => rfl
            | true => exact absurd (hf.2.2.2.2.2.2.2.2.2.2.1 rfl).1.1 (by decide)
          subst hl9
          have hbw := hf.1 rfl
          clear hf
          go_simp
          refine hK.out _ _ ?_
          clear hK K
          obtain ⟨SD, h0, h1, h2, h3, h4, h5, h6, h7, h8, h9, h10⟩ := RP_get w w1 w.heap.size a h m cB B BS hG
          have hb := fun ob => (Below.refl w2.heap.size w2).alloc (Nat.le_refl _) ob
          refine RP_mk w w1 w.heap.size a h m cB B BS ?_
          exact ⟨fun g => below_then (SD g) (hb _), h0, h1, h2, h3, h4, (fun g1 g2 => ⟨_, rfl, own_of_blk (cs := #[]) (Blk.new _ _ _) hbw.size (by simp)⟩), h6, (fun g1 g2 => by obtain ⟨A', c', e, r⟩ := h7 g1 g2; exact ⟨A', c', e, own_below r (hb _)⟩), (fun g1 g2 => by obtain ⟨e7, A', c', e, r⟩ := h8 g1 g2; exact ⟨e7, A', c', e, own_below r (hb _)⟩), (fun g1 => by obtain ⟨e, A', c', r⟩ := h9 g1; cases e.1), h10⟩
        | 6, _ =>
          intro o ho l xs w2 hl hx hG hi hdep K hK
          obtain rfl := Option.some.inj (ho.symm.trans rfl)
          clear ho
          obtain ⟨l0, l1, l2, l3, l4, l5, l6, l7, l8, l9, l10, rfl⟩ := RP_b l hl
          obtain ⟨x0, x1, x2, x3, x4, x5, x6, x7, x8, x9, x10, rfl⟩ := RP_v xs hx
          obtain rfl : l6 = false := hi
          clear hdep hl hx
          dsimp only [setAll, List.set_cons_zero, List.set_cons_succ] at hK ⊢
          go_simp
          refine hK.out _ _ ?_
          clear hK K
          obtain ⟨SD, h0, h1, h2, h3, h4, h5, h6, h7, h8, h9, h10⟩ := RP_get w w1 w.heap.size a h m cB B BS hG
          refine RP_mk w w1 w.heap.size a h m cB B BS ?_
          exact ⟨SD, h0, h1, h2, h3, h4, h5, (fun g1 => rfl), h7, h8, h9, h10⟩
        | 7, _ =>
          intro o ho l xs w2 hl hx hG hi hdep K hK
          obtain rfl := Option.some.inj (ho.symm.trans rfl)
          clear ho
          obtain ⟨l0, l1, l2, l3, l4, l5, l6, l7, l8, l9, l10, rfl⟩ := RP_b l hl
          obtain ⟨x0, x1, x2, x3, x4, x5, x6, x7, x8, x9, x10, rfl⟩ := RP_v xs hx
          obtain rfl : l7 = false := hi
          obtain rfl : l5 = true := hdep 5 (by kernel_rfl)
          obtain rfl : l6 = true := hdep 6 (by kernel_rfl)
          clear hdep hl hx
          dsimp only [setAll, List.set_cons_zero, List.set_cons_succ] at hK ⊢
          have hf := RP_get w w1 w.heap.size a h m cB B BS hG
          have hl9 : l9 = false := by
            cases l9 with
            | false => rfl
            | true => exact absurd (hf.2.2.2.2.2.2.2.2.2.2.1 rfl).1.2 (by decide)
          subst hl9
          have hbw := hf.1 rfl
          obtain ⟨g, rfl, hown⟩ := (hf.2.2.2.2.2.2.1 rfl rfl)
          obtain rfl := (hf.2.2.2.2.2.2.2.1 rfl)
          have hrd := HRD.out _ hbw
          have hsz := hbw.size
          clear hf
          refine want_step (by simp [Region.wanted]) ?_
          refine wp_app_all w2 (.tmp 27) (.tmp 28) 23 rfl w1.heap.size 4 i0 (.bool false) 1 Try.underlying23 hi0 hz0 hz1 hz2 rfl (by decide) (.slice (some ⟨g, 0, none⟩) 0 0) 0 [] rfl hown B m cB (BS.map Value.bool) rfl hrd (oneCell_bools _) (by omega) hsz ?_
          intro A' c' w3 hown3 hg3
          dsimp only [Act.put]
          simp only [List.setIfInBounds_toArray, List.set_cons_zero, List.set_cons_succ]
          refine hK.out _ _ ?_
          clear hK K
          obtain ⟨SD, h0, h1, h2, h3, h4, h5, h6, h7, h8, h9, h10⟩ := RP_get w w1 w.heap.size a h m cB B BS hG
          refine RP_mk w w1 w.heap.size a h m cB B BS ?_
          exact ⟨(fun g => (SD g).grown hg3 (SD g).size (fun k hk => (hown.lt k hk).1)), h0, h1, h2, h3, h4, (fun _ g2 => by cases g2), h6, (fun g1 g2 => ⟨A', c', by rw [Nat.zero_add], by simpa using hown3⟩), (fun g1 g2 => by obtain ⟨e7, A', c', e, r⟩ := h8 g1 g2; cases e7), (fun g1 => by obtain ⟨e, A', c', r⟩ := h9 g1; cases e.2), h10⟩
        | 8, _ =>
          intro o ho l xs w2 hl hx hG hi hdep K hK
          obtain rfl := Option.some.inj (ho.symm.trans rfl)
          clear ho
          obtain ⟨l0, l1, l2, l3, l4, l5, l6, l7, l8, l9, l10, rfl⟩ := RP_b l hl
          obtain ⟨x0, x1, x2, x3, x4, x5, x6, x7, x8, x9, x10, rfl⟩ := RP_v xs hx
          obtain rfl : l8 = false := hi
          obtain rfl : l0 = true := hdep 0 (by kernel_rfl)
          obtain rfl : l4 = true := hdep 4 (by kernel_rfl)
          obtain rfl : l7 = true := hdep 7 (by kernel_rfl)
          clear hdep hl hx
          dsimp only [setAll, List.set_cons_zero, List.set_cons_succ] at hK ⊢
          have hf := RP_get w w1 w.heap.size a h m cB B BS hG
          obtain rfl := (hf.2.1 rfl)
          obtain rfl := (hf.2.2.2.2.2.1 rfl)
          obtain ⟨A', c', rfl, hown⟩ := (hf.2.2.2.2.2.2.2.2.1 rfl rfl)
          clear hf
          go_simp
          refine hK.out _ _ ?_
          clear hK K
          obtain ⟨SD, h0, h1, h2, h3, h4, h5, h6, h7, h8, h9, h10⟩ := RP_get w w1 w.heap.size a h m cB B BS hG
          refine RP_mk w w1 w.heap.size a h m cB B BS ?_
          exact ⟨SD, h0, h1, h2, h3, h4, (fun _ g2 => by cases g2), h6, (fun _ g2 => by cases g2), (fun g1 g2 => ⟨rfl, A', c', rfl, hown⟩), h9, h10⟩
        | 9, _ =>
          intro o ho l xs w2 hl hx hG hi hdep K hK
          obtain rfl := Option.some.inj (ho.symm.trans rfl)
          clear ho
          obtain ⟨l0, l1, l2, l3, l4, l5, l6, l7, l8, l9, l10, rfl⟩ := RP_b l hl
          obtain ⟨x0, x1, x2, x3, x4, x5, x6, x7, x8, x9, x10, rfl⟩ := RP_v xs hx
          obtain rfl : l9 = false := hi
          obtain rfl : l0 = true := hdep 0 (by kernel_rfl)
          obtain rfl : l1 = true := hdep 1 (by kernel_rfl)
          obtain rfl : l2 = true := hdep 2 (by kernel_rfl)
          obtain rfl : l3 = true := hdep 3 (by kernel_rfl)
          obtain rfl : l4 = true := hdep 4 (by kernel_rfl)
          obtain rfl : l5 = true := hdep 5 (by kernel_rfl)
          obtain rfl : l6 = true := hdep 6 (by kernel_rfl)
          obtain rfl : l7 = true := hdep 7 (by kernel_rfl)
          obtain rfl : l8 = true := hdep 8 (by kernel_rfl)
          clear hdep hl hx
          dsimp only [setAll, List.set_cons_zero, List.set_cons_succ] at hK ⊢
          have hf := RP_get w w1 w.heap.size a h m cB B BS hG
          obtain ⟨_, A', c', rfl, hown⟩ := (hf.2.2.2.2.2.2.2.2.2.1 rfl rfl)
          have hbw := hf.1 rfl
          have S2 := S1.keep hbw
          obtain ⟨c0, c1, c2⟩ := (S2.blk 0 rfl).cell3
          obtain ⟨f0, f1, f2⟩ := (S2.blk 0 rfl).frozen3
          clear hf
          go_simp
          refine hK.out undef _ ?_
          clear hK K
          obtain ⟨SD, h0, h1, h2, h3, h4, h5, h6, h7, h8, h9, h10⟩ := RP_get w w1 w.heap.size a h m cB B BS hG
          refine RP_mk w w1 w.heap.size a h m cB B BS ?_
          exact ⟨(fun g => by cases g), h0, h1, h2, h3, h4, (fun _ g2 => by cases g2), h6, (fun _ g2 => by cases g2), (fun _ g2 => by cases g2), (fun g1 => ⟨⟨rfl, rfl⟩, A', c', below_set3 S2.below (Nat.le_refl _) _ _ _, own_set3 hown (S2.blk 0 rfl) (by decide) _ _ _, (S2.blk 0 rfl).set3 _ _ _⟩), h10⟩
        | 10, _ =>
          intro o ho l xs w2 hl hx hG hi hdep K hK
          obtain rfl := Option.some.inj (ho.symm.trans rfl)
          clear ho
          obtain ⟨l0, l1, l2, l3, l4, l5, l6, l7, l8, l9, l10, rfl⟩ := RP_b l hl
          obtain ⟨x0, x1, x2, x3, x4, x5, x6, x7, x8, x9, x10, rfl⟩ := RP_v xs hx
          obtain rfl : l10 = false := hi
          obtain rfl : l0 = true := hdep 0 (by kernel_rfl)
          obtain rfl : l1 = true := hdep 1 (by kernel_rfl)
          obtain rfl : l2 = true := hdep 2 (by kernel_rfl)
          obtain rfl : l3 = true := hdep 3 (by kernel_rfl)
          obtain rfl : l4 = true := hdep 4 (by kernel_rfl)
          obtain rfl : l5 = true := hdep 5 (by kernel_rfl)
          obtain rfl : l6 = true := hdep 6 (by kernel_rfl)
          obtain rfl : l7 = true := hdep 7 (by kernel_rfl)
          obtain rfl : l8 = true := hdep 8 (by kernel_rfl)
          obtain rfl : l9 = true := hdep 9 (by kernel_rfl)
          clear hdep hl hx
          dsimp only [setAll, List.set_cons_zero, List.set_cons_succ] at hK ⊢
          go_simp
          refine hK.out _ _ ?_
          clear hK K
          obtain ⟨SD, h0, h1, h2, h3, h4, h5, h6, h7, h8, h9, h10⟩ := RP_get w w1 w.heap.size a h m cB B BS hG
          refine RP_mk w w1 w.heap.size a h m cB B BS ?_
          exact ⟨SD, h0, h1, h2, h3, h4, (fun _ g2 => by cases g2), h6, (fun _ g2 => by cases g2), (fun _ g2 => by cases g2), h9, (fun g1 => rfl)⟩
        | k + 11, h => exact absurd h (by omega)
      · obtain ⟨x0, x1, x2, x3, x4, x5, x6, x7, x8, x9, x10, rfl⟩ := RP_v xs hx
        have hG : RP w w1 w.heap.size a h m cB B BS [true, true, true, true, true, true, true, true, true, true, true] [x0, x1, x2, x3, x4, x5, x6, x7, x8, x9, x10] wf := hG
        have hf := RP_get w w1 w.heap.size a h m cB B BS hG
        obtain ⟨_, A', c', hbw, hown, hblk⟩ := (hf.2.2.2.2.2.2.2.2.2.2.1 rfl)
        obtain rfl := (hf.2.2.2.2.2.2.2.2.2.2.2 rfl)
        obtain ⟨q0, q1, q2⟩ := hblk.cell3
        clear hf hG
        dsimp only [setAll, List.set_cons_zero, List.set_cons_succ]
        go_wp2_with fail
        refine bodyPost_ret (v := .tuple #[.agg #[.int .i64 (a : Int), .int .i64 (h : Int), .slice A' m c'], .int .i64 0]) (by simp [results, Try.results14, go_sem, q0, q1, q2]) rfl ?_
        rw [hR.out]
        refine ⟨A', m, c', ?_, by have h1 := own_base hown S1.size; rw [HBS.out] at h1; exact h1, hbw⟩
        show _ = Ending.returned (.tuple #[.agg #[.int .i64 (a : Int), .int .i64 (ps.length : Nat), .slice A' m c'], .int .i64 0])
        rw [HPL.out]
  · have hR := Lib.hid (hE1.out ht)
    have htb : (t != 0) = true := by simpa using ht
    obtain ⟨c0, c1, c2⟩ := (S1.blk 0 rfl).cell3
    obtain ⟨f0, f1, f2⟩ := (S1.blk 0 rfl).frozen3
    obtain ⟨q0, q1, q2⟩ := ((S1.blk 0 rfl).set3 (.int .i64 0) (.int .i64 0) (.slice none 0 0)).cell3
    clear hown
    go_wp2_with fail
    refine bodyPost_ret (v := .tuple #[.agg #[.int .i64 0, .int .i64 0, .slice none 0 0], .int .i64 t]) (by simp [results, Try.results14, go_sem, q0, q1, q2]) rfl ?_
    rw [hR.out]
    exact ⟨none, 0, 0, rfl, World.ownsRow_nil _ _ _ _, below_set3 S1.below (Nat.le_refl _) _ _ _⟩
end Go.Proofs.Ytfjdlbilnoojkaa
