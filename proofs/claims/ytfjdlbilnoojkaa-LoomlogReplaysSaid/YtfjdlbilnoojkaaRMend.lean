/- raddleref20.Mend. -/
import Derived.Test.YtfjdlbilnoojkaaMend
import Derived.Test.YtfjdlbilnoojkaaWoven
import Derived.Test.YtfjdlbilnoojkaaRows20
import Derived.Test.YtfjdlbilnoojkaaInvR
import Derived.Deep.Draws
namespace Go.Proofs.Ytfjdlbilnoojkaa
open Go.RowKit

theorem rowsB_flat : ∀ {a : Nat} {ps : List (List Bool)}, RowsN a ps → rowsB a ps.length ps.flatten = ps
  | a, [], _ => rfl
  | a, r :: ps, h => by
    have hr : r.length = a := h r (List.mem_cons_self ..)
    have ih := rowsB_flat (a := a) (ps := ps) (fun r' hr' => h r' (List.mem_cons_of_mem _ hr'))
    unfold rowsB at ih ⊢
    rw [List.length_cons, List.range_succ_eq_map, List.map_cons, List.map_map]
    congr 1
    · unfold rowB
      rw [Nat.zero_mul, List.drop_zero, List.flatten_cons, ← hr]
      exact List.take_left
    · refine Eq.trans (List.map_congr_left fun k _ => ?_) ih
      unfold rowB
      show ((r ++ ps.flatten).drop ((k + 1) * a)).take a = _
      rw [show (k + 1) * a = r.length + k * a by rw [Nat.succ_mul, hr, Nat.add_comm], List.drop_append, List.drop_eq_nil_of_le (Nat.le_add_right _ _), List.nil_append, Nat.add_sub_cancel_left]
theorem mendTo_back (a : List (List Bool)) (z k : Nat) : mendTo a (z + 1) k 0 = mendTo a z k 0 ++ [((2 : Int), ([] : List Bool))] := by
  rw [mendTo_zero, mendTo_zero, List.replicate_succ']
set_option linter.unusedVariables false in
def RM (Wd : World) (gR a h m cB : Nat) (B : Option Addr) : List Bool → List Value → World → Prop
  | [l0, l1, l2, l3, l4, l5, l6, l7, l8, l9, l10], [x0, x1, x2, x3, x4, x5, x6, x7, x8, x9, x10], u => (Below Wd.heap.size Wd u) ∧ (l0 = true → x0 = .pointer (some ⟨gR, 0, none⟩)) ∧ (l1 = true → x1 = .int .i64 (a : Int)) ∧ (l2 = true → x2 = .slice B m cB) ∧ (l3 = true → x3 = .int .i64 (m : Int)) ∧ (l4 = true → x4 = .pointer (some ⟨gR, 0, none⟩)) ∧ (l5 = true → x5 = .int .i64 (a : Int)) ∧ (l6 = true → x6 = .int .i64 (h : Int)) ∧ (l7 = true → x7 = .slice B m cB) ∧ (l8 = true → x8 = .agg #[.int .i64 (a : Int), .int .i64 (h : Int), .slice B m cB]) ∧ (l9 = true → l10 = false → ∃ g : Nat, x9 = .pointer (some ⟨g, 0, none⟩) ∧ Blk u g 25 #[.int .i64 0, .int .i64 0, .slice none 0 0] ∧ Wd.heap.size ≤ g) ∧ (l10 = true → l9 = true ∧ ∃ g : Nat, x9 = .pointer (some ⟨g, 0, none⟩) ∧ Blk u g 25 #[.int .i64 (a : Int), .int .i64 (h : Int), .slice B m cB] ∧ Wd.heap.size ≤ g)
  | _, _, _ => False
theorem RM_get (Wd : World) (gR a h m cB : Nat) (B : Option Addr) {l0 l1 l2 l3 l4 l5 l6 l7 l8 l9 l10 : Bool} {x0 x1 x2 x3 x4 x5 x6 x7 x8 x9 x10 : Value} {u : World} (hyp : RM Wd gR a h m cB B [l0, l1, l2, l3, l4, l5, l6, l7, l8, l9, l10] [x0, x1, x2, x3, x4, x5, x6, x7, x8, x9, x10] u) : (Below Wd.heap.size Wd u) ∧ (l0 = true → x0 = .pointer (some ⟨gR, 0, none⟩)) ∧ (l1 = true → x1 = .int .i64 (a : Int)) ∧ (l2 = true → x2 = .slice B m cB) ∧ (l3 = true → x3 = .int .i64 (m : Int)) ∧ (l4 = true → x4 = .pointer (some ⟨gR, 0, none⟩)) ∧ (l5 = true → x5 = .int .i64 (a : Int)) ∧ (l6 = true → x6 = .int .i64 (h : Int)) ∧ (l7 = true → x7 = .slice B m cB) ∧ (l8 = true → x8 = .agg #[.int .i64 (a : Int), .int .i64 (h : Int), .slice B m cB]) ∧ (l9 = true → l10 = false → ∃ g : Nat, x9 = .pointer (some ⟨g, 0, none⟩) ∧ Blk u g 25 #[.int .i64 0, .int .i64 0, .slice none 0 0] ∧ Wd.heap.size ≤ g) ∧ (l10 = true → l9 = true ∧ ∃ g : Nat, x9 = .pointer (some ⟨g, 0, none⟩) ∧ Blk u g 25 #[.int .i64 (a : Int), .int .i64 (h : Int), .slice B m cB] ∧ Wd.heap.size ≤ g) := hyp
theorem RM_mk (Wd : World) (gR a h m cB : Nat) (B : Option Addr) {l0 l1 l2 l3 l4 l5 l6 l7 l8 l9 l10 : Bool} {x0 x1 x2 x3 x4 x5 x6 x7 x8 x9 x10 : Value} {u : World} (hyp : (Below Wd.heap.size Wd u) ∧ (l0 = true → x0 = .pointer (some ⟨gR, 0, none⟩)) ∧ (l1 = true → x1 = .int .i64 (a : Int)) ∧ (l2 = true → x2 = .slice B m cB) ∧ (l3 = true → x3 = .int .i64 (m : Int)) ∧ (l4 = true → x4 = .pointer (some ⟨gR, 0, none⟩)) ∧ (l5 = true → x5 = .int .i64 (a : Int)) ∧ (l6 = true → x6 = .int .i64 (h : Int)) ∧ (l7 = true → x7 = .slice B m cB) ∧ (l8 = true → x8 = .agg #[.int .i64 (a : Int), .int .i64 (h : Int), .slice B m cB]) ∧ (l9 = true → l10 = false → ∃ g : Nat, x9 = .pointer (some ⟨g, 0, none⟩) ∧ Blk u g 25 #[.int .i64 0, .int .i64 0, .slice none 0 0] ∧ Wd.heap.size ≤ g) ∧ (l10 = true → l9 = true ∧ ∃ g : Nat, x9 = .pointer (some ⟨g, 0, none⟩) ∧ Blk u g 25 #[.int .i64 (a : Int), .int .i64 (h : Int), .slice B m cB] ∧ Wd.heap.size ≤ g)) : RM Wd gR a h m cB B [l0, l1, l2, l3, l4, l5, l6, l7, l8, l9, l10] [x0, x1, x2, x3, x4, x5, x6, x7, x8, x9, x10] u := hyp
theorem RM_b : ∀ l : List Bool, l.length = 11 → ∃ a0 a1 a2 a3 a4 a5 a6 a7 a8 a9 a10, l = [a0, a1, a2, a3, a4, a5, a6, a7, a8, a9, a10]
  | [a0, a1, a2, a3, a4, a5, a6, a7, a8, a9, a10], _ => ⟨a0, a1, a2, a3, a4, a5, a6, a7, a8, a9, a10, rfl⟩
theorem RM_v : ∀ l : List Value, l.length = 11 → ∃ a0 a1 a2 a3 a4 a5 a6 a7 a8 a9 a10, l = [a0, a1, a2, a3, a4, a5, a6, a7, a8, a9, a10]
  | [a0, a1, a2, a3, a4, a5, a6, a7, a8, a9, a10], _ => ⟨a0, a1, a2, a3, a4, a5, a6, a7, a8, a9, a10, rfl⟩
set_option linter.unusedVariables false in
set_option maxHeartbeats 6000000 in
set_option maxRecDepth 100000 in
theorem rmend_any (W H : Int) (bs : List Bool) (A : Option Addr) (n c : Nat) (lg : List Ev) (A' : Option Addr) (n' c' : Nat) (w : World) (hr : Rd w A n (bs.map Value.bool)) (hnc : n ≤ c) (hlg : LogR w A' n' lg) (hn' : n' ≤ 1048576) :
    Calls Try.prog 18 #[.agg #[.int .i64 W, .int .i64 H, .slice A n c], .slice A' n' c'] w (RetE (mendE W H bs lg) w) := by
  have hl : bs.length = n := by simpa using hr.len
  have HLG := Lib.hid hlg.len
  have S0 := ((St.start w).addRd hr).box #[.int .i64 W, .int .i64 H, .slice A n c] 25
  simp only [List.nil_append, List.cons_append] at S0
  have HP := Lib.hid (fun w => rpcheck_any W H A n c w)
  have HWOV := Lib.hid (fun u (hu : Below w.heap.size w u) => woven_any W lg A' n' c' u (hlg.below hu))
  obtain ⟨c0, c1, c2⟩ := (S0.blk 1 rfl).cell3
  by_cases hk : chkP W H n = 0
  · have HX1 := Lib.hid (mendE_err (W := W) (H := H) (bs := bs) (l := lg) (by rw [hl]; exact hk))
    have HK := Lib.hid (show chkP W H bs.length = 0 by rw [hl]; exact hk)
    obtain ⟨a, h, rfl, rfl, ha1, ha, hh1, hh, hn⟩ := chkP_zero hk
    have hkb : (chkP a h n != 0) = false := by simpa using hk
    have HROW := Lib.hid (fun (k : Nat) (hk : k < h) u (hu : Below w.heap.size w u) => row20_any a h k bs A n c u ha1 (by omega) hh hk (by rw [hl]; exact hn) (hr.below hu) hnc)
    have HRL := Lib.hid (fun k (hk : k < h) => rowB_len (a := a) (h := h) (bs := bs) (by rw [hl]; exact hn) hk)
    have HRW0 := Lib.hid (fun (kt y z : Nat) (bt : List Bool) B nB cB u (hu : Below w.heap.size w u) (hh2 : kt ≤ 64) (hy : y < h) (hz : z < kt) (hl2 : bt.length = kt * a) (hr2 : Rd u B nB (bt.map Value.bool)) => rows20_any a h kt y z bs bt A B n c nB cB u (by omega) hh hh2 hy hz (by rw [hl]; exact hn) hl2 (hr.below hu) hr2)
    obtain ⟨i0, hi, hz0, hz1, hz2'⟩ := info_parts2 Try.infoEv
    have HRUN := Lib.hid (runE_rows (N := a) (l := lg))
    obtain ⟨R, hR⟩ : ∃ R, mendE a h bs lg = R := ⟨_, rfl⟩
    rw [hR] at HX1
    have HR := Lib.hid hR
    rw [hR]
    clear hr hl hn hk hlg hR
    generalize chkP a h n = K at *
    go_enter Try.func18, Try.ntmps18
    go_wp2_with fail
    refine (HP.out _).mono ?_
    rintro e w1 ⟨rfl, hb1⟩
    have S1 := S0.keep hb1
    clear c0 c1 c2
    obtain ⟨c0, c1, c2⟩ := (S1.blk 1 rfl).cell3
    go_wp2_with fail
    have HR1 := HWOV.out _ S1.below
    unfold WovRet at HR1
    refine HR1.mono ?_
    clear HR1
    rintro e w2 ⟨B, m, cB, rfl, hown, hb2⟩
    have S2 := S1.keep hb2
    by_cases ht : (runE a lg).1 = 0
    · obtain ⟨ps, hps⟩ : ∃ ps, runE a lg = (0, ps) := ⟨_, Prod.ext ht rfl⟩
      have HPS := Lib.hid hps
      rw [hps] at hown HRUN ⊢
      obtain ⟨hrows, h64⟩ := HRUN.out
      simp only at hown hrows h64
      have HX2 := Lib.hid (mendE_many (a := a) (h := h) (bs := bs) (l := lg) (p := ps) HK.out hps)
      have HX3 := Lib.hid (mendE_ok (a := a) (h := h) (bs := bs) (l := lg) (p := ps) HK.out hps)
      rw [HR.out] at HX2 HX3
      clear ht hps HX1 HRUN HK HR HPS
      obtain ⟨BS, hBS⟩ : ∃ BS, BS = ps.flatten := ⟨_, rfl⟩
      rw [← hBS] at hown
      have hrd0 := rd_of_own hown
      obtain ⟨kt, hh2⟩ : ∃ kt, ps.length = kt := ⟨_, rfl⟩
      have hml : m = kt * a := by
        have h1 := hrd0.len
        rw [List.length_map, hBS, flat_len hrows, hh2] at h1
        exact h1.symm
      have HPR : Hid (ps = rowsB a kt BS) := by
        show _ = _
        rw [hBS, ← hh2, rowsB_flat hrows]
      have hm64 : m ≤ 2560 := by rw [hml]; exact Nat.le_trans (Nat.mul_le_mul (show kt ≤ 64 by omega) ha) (by decide)
      have HROWS := Lib.hid (fun (k : Nat) (hk : k < h) (hk2 : k < kt) u (hu : Below w.heap.size w u) (hb : Below w2.heap.size w2 u) => HRW0.out kt k k BS B m cB u hu (by omega) hk hk2 (by rw [hBS, flat_len hrows, hh2]) (hrd0.below hb))
      have HQ1 : Hid ((m : Int).tdiv (a : Int) = (kt : Int)) := by
        show _ = _
        rw [hml, Int.tdiv_eq_ediv_of_nonneg (by omega), ← Int.natCast_ediv, Nat.mul_div_cancel _ (by omega)]
      have HQ2 : Hid ((m : Int) / (a : Int) = (kt : Int)) := by
        show _ = _
        rw [hml, ← Int.natCast_ediv, Nat.mul_div_cancel _ (by omega)]
      have ha0 : ¬ (a : Int) = 0 := by omega
      have ha00 : a ≠ 0 := by omega
      have hh64 : kt ≤ 64 := by omega
      have hwh : IntKind.i64.wrap (kt : Int) = (kt : Int) := wrap_small _ (by omega) (by omega)
      clear hown hrd0 hml hBS hrows h64 hh2 HRW0 HWOV c0 c1 c2
      go_wp2_with fail
      refine wp_region_invL 11 [some 28, some 29, some 30, some 31, some 32, some 33, some 34, some 35, some 36, some 8, none] (RM w2 w.heap.size a kt m cB B) (by kernel_rfl) rfl rfl (by decide) (by kernel_rfl) (fun xs hx => ?_) (fun i hi => ?_) (fun xs wf hx hG => ?_)
      · obtain ⟨x0, x1, x2, x3, x4, x5, x6, x7, x8, x9, x10, rfl⟩ := RM_v xs hx
        show RM w2 w.heap.size a kt m cB B [false, false, false, false, false, false, false, false, false, false, false] [x0, x1, x2, x3, x4, x5, x6, x7, x8, x9, x10] _
        refine RM_mk w2 w.heap.size a kt m cB B ?_
        exact ⟨(Below.refl _ _).drew, (fun g1 => by cases g1), (fun g1 => by cases g1), (fun g1 => by cases g1), (fun g1 => by cases g1), (fun g1 => by cases g1), (fun g1 => by cases g1), (fun g1 => by cases g1), (fun g1 => by cases g1), (fun g1 => by cases g1), (fun g1 => by cases g1), (fun g1 => by cases g1)⟩
      · match i, hi with
        | 0, _ =>
          intro o ho l xs w1 hl hx hG hi hdep K hK
          obtain rfl := Option.some.inj (ho.symm.trans rfl)
          clear ho
          obtain ⟨l0, l1, l2, l3, l4, l5, l6, l7, l8, l9, l10, rfl⟩ := RM_b l hl
          obtain ⟨x0, x1, x2, x3, x4, x5, x6, x7, x8, x9, x10, rfl⟩ := RM_v xs hx
          obtain rfl : l0 = false := hi
          clear hdep hl hx
          dsimp only [setAll, List.set_cons_zero, List.set_cons_succ] at hK ⊢
          go_simp
          refine hK.out _ _ ?_
          clear hK K
          obtain ⟨SD, h0, h1, h2, h3, h4, h5, h6, h7, h8, h9, h10⟩ := RM_get w2 w.heap.size a kt m cB B hG
          refine RM_mk w2 w.heap.size a kt m cB B ?_
          exact ⟨SD, (fun g1 => rfl), h1, h2, h3, h4, h5, h6, h7, h8, h9, h10⟩
        | 1, _ =>
          intro o ho l xs w1 hl hx hG hi hdep K hK
          obtain rfl := Option.some.inj (ho.symm.trans rfl)
          clear ho
          obtain ⟨l0, l1, l2, l3, l4, l5, l6, l7, l8, l9, l10, rfl⟩ := RM_b l hl
          obtain ⟨x0, x1, x2, x3, x4, x5, x6, x7, x8, x9, x10, rfl⟩ := RM_v xs hx
          obtain rfl : l1 = false := hi
          obtain rfl : l0 = true := hdep 0 (by kernel_rfl)
          clear hdep hl hx
          dsimp only [setAll, List.set_cons_zero, List.set_cons_succ] at hK ⊢
          have hf := RM_get w2 w.heap.size a kt m cB B hG
          obtain rfl := (hf.2.1 rfl)
          obtain ⟨c0, c1, c2⟩ := ((S2.keep hf.1).blk 1 rfl).cell3
          clear hf
          go_simp
          refine hK.out _ _ ?_
          clear hK K
          obtain ⟨SD, h0, h1, h2, h3, h4, h5, h6, h7, h8, h9, h10⟩ := RM_get w2 w.heap.size a kt m cB B hG
          refine RM_mk w2 w.heap.size a kt m cB B ?_
          exact ⟨SD, h0, (fun g1 => rfl), h2, h3, h4, h5, h6, h7, h8, h9, h10⟩
        | 2, _ =>
          intro o ho l xs w1 hl hx hG hi hdep K hK
          obtain rfl := Option.some.inj (ho.symm.trans rfl)
          clear ho
          obtain ⟨l0, l1, l2, l3, l4, l5, l6, l7, l8, l9, l10, rfl⟩ := RM_b l hl
          obtain ⟨x0, x1, x2, x3, x4, x5, x6, x7, x8, x9, x10, rfl⟩ := RM_v xs hx
          obtain rfl : l2 = false := hi
          clear hdep hl hx
          dsimp only [setAll, List.set_cons_zero, List.set_cons_succ] at hK ⊢
          go_simp
          refine hK.out _ _ ?_
          clear hK K
          obtain ⟨SD, h0, h1, h2, h3, h4, h5, h6, h7, h8, h9, h10⟩ := RM_get w2 w.heap.size a kt m cB B hG
          refine RM_mk w2 w.heap.size a kt m cB B ?_
          exact ⟨SD, h0, h1, (fun g1 => rfl), h3, h4, h5, h6, h7, h8, h9, h10⟩
        | 3, _ =>
          intro o ho l xs w1 hl hx hG hi hdep K hK
          obtain rfl := Option.some.inj (ho.symm.trans rfl)
          clear ho
          obtain ⟨l0, l1, l2, l3, l4, l5, l6, l7, l8, l9, l10, rfl⟩ := RM_b l hl
          obtain ⟨x0, x1, x2, x3, x4, x5, x6, x7, x8, x9, x10, rfl⟩ := RM_v xs hx
          obtain rfl : l3 = false := hi
          obtain rfl : l2 = true := hdep 2 (by kernel_rfl)
          clear hdep hl hx
          dsimp only [setAll, List.set_cons_zero, List.set_cons_succ] at hK ⊢
          have hf := RM_get w2 w.heap.size a kt m cB B hG
          obtain rfl := (hf.2.2.2.1 rfl)
          clear hf
          go_simp
          refine hK.out _ _ ?_
          clear hK K
          obtain ⟨SD, h0, h1, h2, h3, h4, h5, h6, h7, h8, h9, h10⟩ := RM_get w2 w.heap.size a kt m cB B hG
          refine RM_mk w2 w.heap.size a kt m cB B ?_
          exact ⟨SD, h0, h1, h2, (fun g1 => rfl), h4, h5, h6, h7, h8, h9, h10⟩
        | 4, _ =>
          intro o ho l xs w1 hl hx hG hi hdep K hK
          obtain rfl := Option.some.inj (ho.symm.trans rfl)
          clear ho
          obtain ⟨l0, l1, l2, l3, l4, l5, l6, l7, l8, l9, l10, rfl⟩ := RM_b l hl
          obtain ⟨x0, x1, x2, x3, x4, x5, x6, x7, x8, x9, x10, rfl⟩ := RM_v xs hx
          obtain rfl : l4 = false := hi
          clear hdep hl hx
          dsimp only [setAll, List.set_cons_zero, List.set_cons_succ] at hK ⊢
          go_simp
          refine hK.out _ _ ?_
          clear hK K
          obtain ⟨SD, h0, h1, h2, h3, h4, h5, h6, h7, h8, h9, h10⟩ := RM_get w2 w.heap.size a kt m cB B hG
          refine RM_mk w2 w.heap.size a kt m cB B ?_
          exact ⟨SD, h0, h1, h2, h3, (fun g1 => rfl), h5, h6, h7, h8, h9, h10⟩
        | 5, _ =>
          intro o ho l xs w1 hl hx hG hi hdep K hK
          obtain rfl := Option.some.inj (ho.symm.trans rfl)
          clear ho
          obtain ⟨l0, l1, l2, l3, l4, l5, l6, l7, l8, l9, l10, rfl⟩ := RM_b l hl
          obtain ⟨x0, x1, x2, x3, x4, x5, x6, x7, x8, x9, x10, rfl⟩ := RM_v xs hx
          obtain rfl : l5 = false := hi
          obtain rfl : l4 = true := hdep 4 (by kernel_rfl)
          clear hdep hl hx
          dsimp only [setAll, List.set_cons_zero, List.set_cons_succ] at hK ⊢
          have hf := RM_get w2 w.heap.size a kt m cB B hG
          obtain rfl := (hf.2.2.2.2.2.1 rfl)
          obtain ⟨c0, c1, c2⟩ := ((S2.keep hf.1).blk 1 rfl).cell3
          clear hf
          go_simp
          refine hK.out _ _ ?_
          clear hK K
          obtain ⟨SD, h0, h1, h2, h3, h4, h5, h6, h7, h8, h9, h10⟩ := RM_get w2 w.heap.size a kt m cB B hG
          refine RM_mk w2 w.heap.size a kt m cB B ?_
          exact ⟨SD, h0, h1, h2, h3, h4, (fun g1 => rfl), h6, h7, h8, h9, h10⟩
        | 6, _ =>
          intro o ho l xs w1 hl hx hG hi hdep K hK
          obtain rfl := Option.some.inj (ho.symm.trans rfl)
          clear ho
          obtain ⟨l0, l1, l2, l3, l4, l5, l6, l7, l8, l9, l10, rfl⟩ := RM_b l hl
          obtain ⟨x0, x1, x2, x3, x4, x5, x6, x7, x8, x9, x10, rfl⟩ := RM_v xs hx
          obtain rfl : l6 = false := hi
          obtain rfl : l3 = true := hdep 3 (by kernel_rfl)
          obtain rfl : l5 = true := hdep 5 (by kernel_rfl)
          clear hdep hl hx
          dsimp only [setAll, List.set_cons_zero, List.set_cons_succ] at hK ⊢
          have hf := RM_get w2 w.heap.size a kt m cB B hG
          obtain rfl := (hf.2.2.2.2.1 rfl)
          obtain rfl := (hf.2.2.2.2.2.2.1 rfl)
          have hq1 := HQ1.out
          have hq2 := HQ2.out
          clear hf
          go_simp
          refine hK.out _ _ ?_
          clear hK K
          obtain ⟨SD, h0, h1, h2, h3, h4, h5, h6, h7, h8, h9, h10⟩ := RM_get w2 w.heap.size a kt m cB B hG
          refine RM_mk w2 w.heap.size a kt m cB B ?_
          exact ⟨SD, h0, h1, h2, h3, h4, h5, (fun g1 => rfl), h7, h8, h9, h10⟩
        | 7, _ =>
          intro o ho l xs w1 hl hx hG hi hdep K hK
          obtain rfl := Option.some.inj (ho.symm.trans rfl)
          clear ho
          obtain ⟨l0, l1, l2, l3, l4, l5, l6, l7, l8, l9, l10, rfl⟩ := RM_b l hl
          obtain ⟨x0, x1, x2, x3, x4, x5, x6, x7, x8, x9, x10, rfl⟩ := RM_v xs hx
          obtain rfl : l7 = false := hi
          clear hdep hl hx
          dsimp only [setAll, List.set_cons_zero, List.set_cons_succ] at hK ⊢
          go_simp
          refine hK.out _ _ ?_
          clear hK K
          obtain ⟨SD, h0, h1, h2, h3, h4, h5, h6, h7, h8, h9, h10⟩ := RM_get w2 w.heap.size a kt m cB B hG
          refine RM_mk w2 w.heap.size a kt m cB B ?_
          exact ⟨SD, h0, h1, h2, h3, h4, h5, h6, (fun g1 => rfl), h8, h9, h10⟩
        | 8, _ =>
          intro o ho l xs w1 hl hx hG hi hdep K hK
          obtain rfl := Option.some.inj (ho.symm.trans rfl)
          clear ho
          obtain ⟨l0, l1, l2, l3, l4, l5, l6, l7, l8, l9, l10, rfl⟩ := RM_b l hl
          obtain ⟨x0, x1, x2, x3, x4, x5, x6, x7, x8, x9, x10, rfl⟩ := RM_v xs hx
          obtain rfl : l8 = false := hi
          obtain rfl : l1 = true := hdep 1 (by kernel_rfl)
          obtain rfl : l6 = true := hdep 6 (by kernel_rfl)
          obtain rfl : l7 = true := hdep 7 (by kernel_rfl)
          clear hdep hl hx
          dsimp only [setAll, List.set_cons_zero, List.set_cons_succ] at hK ⊢
          have hf := RM_get w2 w.heap.size a kt m cB B hG
          obtain rfl := (hf.2.2.1 rfl)
          obtain rfl := (hf.2.2.2.2.2.2.2.1 rfl)
          obtain rfl := (hf.2.2.2.2.2.2.2.2.1 rfl)
          clear hf
          go_simp
          refine hK.out _ _ ?_
          clear hK K
          obtain ⟨SD, h0, h1, h2, h3, h4, h5, h6, h7, h8, h9, h10⟩ := RM_get w2 w.heap.size a kt m cB B hG
          refine RM_mk w2 w.heap.size a kt m cB B ?_
          exact ⟨SD, h0, h1, h2, h3, h4, h5, h6, h7, (fun g1 => rfl), h9, h10⟩
        | 9, _ =>
          intro o ho l xs w1 hl hx hG hi hdep K hK
          obtain rfl := Option.some.inj (ho.symm.trans rfl)
          clear ho
          obtain ⟨l0, l1, l2, l3, l4, l5, l6, l7, l8, l9, l10, rfl⟩ := RM_b l hl
          obtain ⟨x0, x1, x2, x3, x4, x5, x6, x7, x8, x9, x10, rfl⟩ := RM_v xs hx
          obtain rfl : l9 = false := hi
          clear hdep hl hx
          dsimp only [setAll, List.set_cons_zero, List.set_cons_succ] at hK ⊢
          have hf := RM_get w2 w.heap.size a kt m cB B hG
          have hsz := hf.1.size
          clear hf
          go_simp
          refine hK.out _ _ ?_
          clear hK K
          obtain ⟨SD, h0, h1, h2, h3, h4, h5, h6, h7, h8, h9, h10⟩ := RM_get w2 w.heap.size a kt m cB B hG
          have hb := fun ob => (Below.refl w1.heap.size w1).alloc (Nat.le_refl _) ob
          refine RM_mk w2 w.heap.size a kt m cB B ?_
          exact ⟨below_then SD (hb _), (fun g1 => by obtain e := h0 g1; exact e), (fun g1 => by obtain e := h1 g1; exact e), (fun g1 => by obtain e := h2 g1; exact e), (fun g1 => by obtain e := h3 g1; exact e), (fun g1 => by obtain e := h4 g1; exact e), (fun g1 => by obtain e := h5 g1; exact e), (fun g1 => by obtain e := h6 g1; exact e), (fun g1 => by obtain e := h7 g1; exact e), (fun g1 => by obtain e := h8 g1; exact e), (fun g1 g2 => ⟨_, rfl, Blk.new _ _ _, hsz⟩), (fun g1 => by obtain ⟨e9, g, e, b, l⟩ := h10 g1; cases e9)⟩
        | 10, _ =>
          intro o ho l xs w1 hl hx hG hi hdep K hK
          obtain rfl := Option.some.inj (ho.symm.trans rfl)
          clear ho
          obtain ⟨l0, l1, l2, l3, l4, l5, l6, l7, l8, l9, l10, rfl⟩ := RM_b l hl
          obtain ⟨x0, x1, x2, x3, x4, x5, x6, x7, x8, x9, x10, rfl⟩ := RM_v xs hx
          obtain rfl : l10 = false := hi
          obtain rfl : l0 = true := hdep 0 (by kernel_rfl)
          obtain rfl : l1 = true := hdep 1 (by kernel_rfl)
          obtain rfl : l2 = true := hdep 2 (by kernel_rfl)
          obtain rfl : l3 = true := hdep 3 (by kernel_rfl)
          obtain rfl : l4 = true := hdep 4 (by kernel_rfl)
          obtain rfl : l5 = true := hdep 5 (by kernel_rfl)
          obtain rfl : l6 = true := hdep 6 (by kernel_rfl)
          obtain rfl : l7 = true := hdep 7 (by kernel_rfl)
          obtain rfl : l8 = true := hdep 8 (by kernel_rfl)
          obtain rfl : l9 = true := hdep 9 (by kernel_rfl)
          clear hdep hl hx
          dsimp only [setAll, List.set_cons_zero, List.set_cons_succ] at hK ⊢
          have hf := RM_get w2 w.heap.size a kt m cB B hG
          obtain rfl := (hf.2.2.2.2.2.2.2.2.2.1 rfl)
          obtain ⟨g, rfl, hbg, hlg⟩ := (hf.2.2.2.2.2.2.2.2.2.2.1 rfl rfl)
          obtain ⟨c0, c1, c2⟩ := hbg.cell3
          obtain ⟨f0, f1, f2⟩ := hbg.frozen3
          have hlt := hbg.lt
          clear hf
          go_simp
          refine hK.out undef _ ?_
          clear hK K
          obtain ⟨SD, h0, h1, h2, h3, h4, h5, h6, h7, h8, h9, h10⟩ := RM_get w2 w.heap.size a kt m cB B hG
          refine RM_mk w2 w.heap.size a kt m cB B ?_
          exact ⟨below_set3 SD hlg _ _ _, h0, h1, h2, h3, h4, h5, h6, h7, h8, (fun _ g2 => by cases g2), (fun g1 => ⟨rfl, g, rfl, hbg.set3 _ _ _, hlg⟩)⟩
        | k + 11, h => exact absurd h (by omega)
      · obtain ⟨x0, x1, x2, x3, x4, x5, x6, x7, x8, x9, x10, rfl⟩ := RM_v xs hx
        have hG : RM w2 w.heap.size a kt m cB B [true, true, true, true, true, true, true, true, true, true, true] [x0, x1, x2, x3, x4, x5, x6, x7, x8, x9, x10] wf := hG
        have hf := RM_get w2 w.heap.size a kt m cB B hG
        obtain ⟨_, g, rfl, hbg, hlg⟩ := (hf.2.2.2.2.2.2.2.2.2.2.2 rfl)
        have hb23 := hf.1
        clear hf hG hx
        dsimp only [setAll, List.set_cons_zero, List.set_cons_succ]
        have S3 := S2.keep hb23
        have hg3 : g < wf.heap.size := hbg.lt
        go_wp2_with fail
        go_loopw [9] (fun i wr => ∃ k : Nat, k ≤ h ∧ k ≤ kt ∧ i = .int .i64 k ∧ (∀ j, j < k → (rowsB a h bs)[j]? = (rowsB a kt BS)[j]?) ∧ Below wf.heap.size wf wr) (fun i _ => h - (intOf i).toNat)
        case atStart => exact ⟨0, Nat.zero_le _, Nat.zero_le _, rfl, fun _ h => absurd h (by omega), Below.refl _ _⟩
        case round =>
          obtain ⟨k, hk, hk2, rfl, heq, hb34⟩ := hrel
          have HE := Lib.hid heq
          clear heq
          have S4 := S3.keep hb34
          have hbg4 := hbg.keep hb34
          obtain ⟨c0, c1, c2⟩ := (S4.blk 1 rfl).cell3
          obtain ⟨d0, d1, d2⟩ := hbg4.cell3
          have hend : (k = h ∨ k = kt ∨ (rowsB a h bs)[k]? ≠ (rowsB a kt BS)[k]?) → comL (rowsB a h bs) (rowsB a kt BS) = k := fun hx => com_is (by rw [rowsB_len]; exact hk) (by rw [rowsB_len]; exact hk2) HE.out (by rw [rowsB_len, rowsB_len]; exact hx)
          have HEND := Lib.hid hend
          clear hend
          by_cases hgo : k < h ∧ k < kt ∧ rowB a bs k = rowB a BS k
          · obtain ⟨hlt, hlt2, hrow⟩ := hgo
            have HRW := Lib.hid (HROWS.out k hlt hlt2 wr S4.below (below_then hb23 hb34))
            have HN := Lib.hid (show ∀ j, j < k + 1 → (rowsB a h bs)[j]? = (rowsB a kt BS)[j]? from fun j hj => by
              by_cases hjk : j = k
              · subst hjk; rw [rowsB_at hlt, rowsB_at hlt2, hrow]
              · exact HE.out j (by omega))
            rw [decide_eq_true hrow] at HRW
            clear hrow
            go_wp2_with fail
            refine HRW.out.mono ?_
            rintro e w5 ⟨rfl, hb5⟩
            go_wp2_with fail
            go_roundw
            case rel => exact ⟨k + 1, by omega, by omega, by go_num, HN.out, below_then hb34 hb5⟩
            case measure => simp [intOf]; omega
          · have HST : Hid (comL (rowsB a h bs) (rowsB a kt BS) = k) := HEND.out (by
              by_cases h1 : k = h
              · exact .inl h1
              · by_cases h2' : k = kt
                · exact .inr (.inl h2')
                · exact .inr (.inr (by rw [rowsB_at (by omega), rowsB_at (by omega)]; exact fun e => hgo ⟨by omega, by omega, Option.some.inj e⟩)))
            have hcase : ∃ w5, Below wf.heap.size wf w5 ∧ (k < h → k < kt → w5 = w5) := ⟨wr, hb34, fun _ _ => rfl⟩
            clear hcase
            by_cases hlt : k < h
            · by_cases hlt2 : k < kt
              · have hrow : ¬ rowB a bs k = rowB a BS k := fun e => hgo ⟨hlt, hlt2, e⟩
                have HRW := Lib.hid (HROWS.out k hlt hlt2 wr S4.below (below_then hb23 hb34))
                rw [decide_eq_false hrow] at HRW
                clear hrow hgo
                go_wp2_with fail
                refine HRW.out.mono ?_
                rintro e w5 ⟨rfl, hb5⟩
                have hb35 := below_then hb34 hb5
                clear hb34 hb5 S4 hbg4 c0 c1 c2 d0 d1 d2
                go_wp2_with fail
                go_loopw [11, 10] (fun i u wr => ∃ (y cL : Nat) (Lp : Option Addr), k ≤ y ∧ y ≤ kt ∧ i = .int .i64 y ∧ u = .slice Lp (y - k) cL ∧ LE wr w5.heap.size 59 4 (.slice Lp (y - k) cL) (y - k) (mendTo (rowsB a h bs) (y - k) k 0) ∧ Below w5.heap.size w5 wr) (fun i _ _ => kt - (intOf i).toNat)
                case atStart => exact ⟨k, 0, none, Nat.le_refl _, hk2, rfl, by rw [Nat.sub_self], by rw [Nat.sub_self, mendTo_zero]; exact LE.nil _ _ _ _, Below.refl _ _⟩
                case round =>
                  obtain ⟨y, cL, Lp, hky, hyh, rfl, rfl, hle, hbel⟩ := hrel
                  have hbel2 := below_then hb35 hbel
                  have hbg5 := hbg.keep hbel2
                  have S5 := S3.keep hbel2
                  obtain ⟨c0, c1, c2⟩ := (S5.blk 1 rfl).cell3
                  obtain ⟨d0, d1, d2⟩ := hbg5.cell3
                  obtain ⟨z, hz⟩ : ∃ z, y - k = z := ⟨_, rfl⟩
                  rw [hz] at hle ⊢
                  have hzA : y ≤ k + z := by omega
                  have hzB : k + z ≤ y := by omega
                  clear hz
                  by_cases hlt : y < kt
                  · by_cases hkk : k < kt
                    · try omega
                      all_goals
                        have hrow : ∀ ob, RowAt (wr.alloc ob) w5.heap.size 4 none [] := fun ob => ⟨Rd.nil_, fun b' o' e => by cases e⟩
                        have hle1 : ∀ ob, LE (wr.alloc ob) w5.heap.size 59 4 (.slice Lp z cL) z (mendTo (rowsB a h bs) z k 0) := fun ob => hle.below (below_alloc1 _ _)
                        have hsz : ∀ ob, w5.heap.size ≤ (wr.alloc ob).heap.size := fun ob => size_alloc_le hbel.size ob
                        have hbl1 : ∀ ob, Below w5.heap.size w5 (wr.alloc ob) := fun ob => hbel.alloc hbel.size ob
                        go_wp2_with (at_builtin; go_loud (refine wpList_ev _ rfl (.tmp 63) (.tmp 65) 22 rfl w5.heap.size 59 4 i0 (.agg #[.int .u8 0, .slice none 0 0]) Try.underlying22 hi hz0 hz1 hz2' rfl (by decide) (.slice Lp z cL) z _ rfl (hle1 _) wr.heap.size 2 none 0 0 [] rfl (Blk.new _ _ _) rfl (hrow _) (by omega) (hsz _) ?_))
                        intro gg cap w6 hle6 hg6 hbg6
                        go_wp2_with fail
                        go_roundw
                        case rel => exact ⟨y + 1, cap, _, by omega, by omega, by go_num, by rw [show y + 1 - k = z + 1 by omega], by rw [show y + 1 - k = z + 1 by omega, mendTo_back]; exact hle6, (hbl1 _).grown hg6 (hsz _) hbg6⟩
                        case measure => simp [intOf]; omega
                    · omega
                  · have hzz : z = kt - k := by omega
                    have HZZ := Lib.hid hzz
                    clear hzz
                    go_wp2_with fail
                    clear c0 c1 c2 d0 d1 d2 hbg5
                    go_loopw [12, 10] (fun i u wz => ∃ (j x cM : Nat) (Lq : Option Addr), k + j ≤ h ∧ i = .int .i64 ((k + j : Nat) : Int) ∧ u = .slice Lq x cM ∧ x = z + j ∧ LE wz w5.heap.size 59 4 (.slice Lq x cM) x (mendTo (rowsB a h bs) z k j) ∧ Below w5.heap.size w5 wz) (fun i _ _ => h - (intOf i).toNat)
                    case atStart => exact ⟨0, z, cL, Lp, hk, rfl, rfl, rfl, hle, hbel⟩
                    case round =>
                      clear hle hbel hbel2 S5
                      obtain ⟨j, x, cM, Lq, hkj, rfl, rfl, hx, hle, hbel⟩ := hrel
                      have HX := Lib.hid hx
                      have hx2 : x ≤ 200 := by omega
                      clear hx
                      have hbel2 := below_then hb35 hbel
                      have S5 := S3.keep hbel2
                      obtain ⟨c0, c1, c2⟩ := (S5.blk 1 rfl).cell3
                      by_cases hltj : k + j < h
                      · by_cases hkk : k < h
                        · try omega
                          all_goals
                            go_wp2_with fail
                            refine (HROW.out (k + j) hltj _ S5.below).mono ?_
                            rintro e w7 ⟨Ar, cr, rfl, hown, hb7⟩
                            have hbel7 := below_then hbel hb7
                            have hrow : ∀ ob, RowAt (w7.alloc ob) w5.heap.size 4 Ar (rowB a bs (k + j)) := fun ob => (RowAt.of_own hown).below (below_alloc1 _ _)
                            have hle1 : ∀ ob, LE (w7.alloc ob) w5.heap.size 59 4 (.slice Lq x cM) x (mendTo (rowsB a h bs) z k j) := fun ob => (hle.below hb7).below (below_alloc1 _ _)
                            have hsz : ∀ ob, w5.heap.size ≤ (w7.alloc ob).heap.size := fun ob => size_alloc_le hbel7.size ob
                            have hbl1 : ∀ ob, Below w5.heap.size w5 (w7.alloc ob) := fun ob => hbel7.alloc hbel7.size ob
                            clear c0 c1 c2
                            go_wp2_with (at_builtin; go_loud (refine wpList_ev _ rfl (.tmp 74) (.tmp 79) 22 rfl w5.heap.size 59 4 i0 (.agg #[.int .u8 0, .slice none 0 0]) Try.underlying22 hi hz0 hz1 hz2' rfl (by decide) (.slice Lq x cM) x _ rfl (hle1 _) w7.heap.size 1 Ar a cr (rowB a bs (k + j)) rfl (Blk.new _ _ _) (HRL.out (k + j) hltj) (hrow _) (by omega) (hsz _) ?_))
                            intro gg cap w6 hle6 hg6 hbg6
                            go_wp2_with fail
                            go_roundw
                            case rel => exact ⟨j + 1, x + 1, cap, _, by omega, by go_num, rfl, by have := HX.out; omega, by rw [mendTo_succ (rowsB_at (a := a) (bs := bs) hltj)]; exact hle6, (hbl1 _).grown hg6 (hsz _) hbg6⟩
                            case measure => simp [intOf]; omega
                        · omega
                      · have hjq : j = h - k := by omega
                        have HLN := Lib.hid (show (mendL (rowsB a h bs) ps).length = x by
                          have h1 := mendTo_len (rowsB a h bs) z k
                          rw [rowsB_len] at h1
                          unfold mendL
                          rw [HPR.out, HST.out, rowsB_len, rowsB_len, ← HZZ.out, h1, HX.out, hjq])
                        rw [show mendTo (rowsB a h bs) z k j = mendL (rowsB a h bs) ps by
                          unfold mendL
                          rw [HPR.out, HST.out, rowsB_len, rowsB_len, ← HZZ.out, hjq]] at hle
                        obtain ⟨A3, c3, e3, h3, h4⟩ := hle.shape
                        injection e3 with e4 _ e5
                        subst e4 e5
                        by_cases hbig : 400 < n' + x
                        · have hd : decide (400 < ((n' : Nat) : Int) + ((x : Nat) : Int)) = true := decide_eq_true (by omega)
                          have hd2 : decide (400 < (((n' + x : Nat)) : Int)) = true := decide_eq_true (by omega)
                          have HXX := Lib.hid (HX2.out (by rw [HLG.out, HLN.out]; exact hbig))
                          go_wp2_with fail
                          go_ret2
                          exact retE_bad HXX.out S5.below
                        · have hd : decide (400 < ((n' : Nat) : Int) + ((x : Nat) : Int)) = false := decide_eq_false (by omega)
                          have hd2 : decide (400 < (((n' + x : Nat)) : Int)) = false := decide_eq_false (by omega)
                          have HXX := Lib.hid (HX3.out (by rw [HLG.out, HLN.out]; exact hbig))
                          go_wp2_with fail
                          go_ret2
                          rw [HXX.out]
                          exact ⟨_, _, _, rfl, hle.read, h3, h4, S5.below⟩
              · clear hgo
                have hb35 := hb34
                go_wp2_with fail
                clear hb34 S4 hbg4 c0 c1 c2 d0 d1 d2
                revert hb35
                generalize wr = w5
                intro hb35
                go_wp2_with fail
                go_loopw [11, 10] (fun i u wr => ∃ (y cL : Nat) (Lp : Option Addr), k ≤ y ∧ y ≤ kt ∧ i = .int .i64 y ∧ u = .slice Lp (y - k) cL ∧ LE wr w5.heap.size 59 4 (.slice Lp (y - k) cL) (y - k) (mendTo (rowsB a h bs) (y - k) k 0) ∧ Below w5.heap.size w5 wr) (fun i _ _ => kt - (intOf i).toNat)
                case atStart => exact ⟨k, 0, none, Nat.le_refl _, hk2, rfl, by rw [Nat.sub_self], by rw [Nat.sub_self, mendTo_zero]; exact LE.nil _ _ _ _, Below.refl _ _⟩
                case round =>
                  obtain ⟨y, cL, Lp, hky, hyh, rfl, rfl, hle, hbel⟩ := hrel
                  have hbel2 := below_then hb35 hbel
                  have hbg5 := hbg.keep hbel2
                  have S5 := S3.keep hbel2
                  obtain ⟨c0, c1, c2⟩ := (S5.blk 1 rfl).cell3
                  obtain ⟨d0, d1, d2⟩ := hbg5.cell3
                  obtain ⟨z, hz⟩ : ∃ z, y - k = z := ⟨_, rfl⟩
                  rw [hz] at hle ⊢
                  have hzA : y ≤ k + z := by omega
                  have hzB : k + z ≤ y := by omega
                  clear hz
                  by_cases hlt : y < kt
                  · by_cases hkk : k < kt
                    · try omega
                      all_goals
                        have hrow : ∀ ob, RowAt (wr.alloc ob) w5.heap.size 4 none [] := fun ob => ⟨Rd.nil_, fun b' o' e => by cases e⟩
                        have hle1 : ∀ ob, LE (wr.alloc ob) w5.heap.size 59 4 (.slice Lp z cL) z (mendTo (rowsB a h bs) z k 0) := fun ob => hle.below (below_alloc1 _ _)
                        have hsz : ∀ ob, w5.heap.size ≤ (wr.alloc ob).heap.size := fun ob => size_alloc_le hbel.size ob
                        have hbl1 : ∀ ob, Below w5.heap.size w5 (wr.alloc ob) := fun ob => hbel.alloc hbel.size ob
                        go_wp2_with (at_builtin; go_loud (refine wpList_ev _ rfl (.tmp 63) (.tmp 65) 22 rfl w5.heap.size 59 4 i0 (.agg #[.int .u8 0, .slice none 0 0]) Try.underlying22 hi hz0 hz1 hz2' rfl (by decide) (.slice Lp z cL) z _ rfl (hle1 _) wr.heap.size 2 none 0 0 [] rfl (Blk.new _ _ _) rfl (hrow _) (by omega) (hsz _) ?_))
                        intro gg cap w6 hle6 hg6 hbg6
                        go_wp2_with fail
                        go_roundw
                        case rel => exact ⟨y + 1, cap, _, by omega, by omega, by go_num, by rw [show y + 1 - k = z + 1 by omega], by rw [show y + 1 - k = z + 1 by omega, mendTo_back]; exact hle6, (hbl1 _).grown hg6 (hsz _) hbg6⟩
                        case measure => simp [intOf]; omega
                    · omega
                  · have hzz : z = kt - k := by omega
                    have HZZ := Lib.hid hzz
                    clear hzz
                    go_wp2_with fail
                    clear c0 c1 c2 d0 d1 d2 hbg5
                    go_loopw [12, 10] (fun i u wz => ∃ (j x cM : Nat) (Lq : Option Addr), k + j ≤ h ∧ i = .int .i64 ((k + j : Nat) : Int) ∧ u = .slice Lq x cM ∧ x = z + j ∧ LE wz w5.heap.size 59 4 (.slice Lq x cM) x (mendTo (rowsB a h bs) z k j) ∧ Below w5.heap.size w5 wz) (fun i _ _ => h - (intOf i).toNat)
                    case atStart => exact ⟨0, z, cL, Lp, hk, rfl, rfl, rfl, hle, hbel⟩
                    case round =>
                      clear hle hbel hbel2 S5
                      obtain ⟨j, x, cM, Lq, hkj, rfl, rfl, hx, hle, hbel⟩ := hrel
                      have HX := Lib.hid hx
                      have hx2 : x ≤ 200 := by omega
                      clear hx
                      have hbel2 := below_then hb35 hbel
                      have S5 := S3.keep hbel2
                      obtain ⟨c0, c1, c2⟩ := (S5.blk 1 rfl).cell3
                      by_cases hltj : k + j < h
                      · by_cases hkk : k < h
                        · try omega
                          all_goals
                            go_wp2_with fail
                            refine (HROW.out (k + j) hltj _ S5.below).mono ?_
                            rintro e w7 ⟨Ar, cr, rfl, hown, hb7⟩
                            have hbel7 := below_then hbel hb7
                            have hrow : ∀ ob, RowAt (w7.alloc ob) w5.heap.size 4 Ar (rowB a bs (k + j)) := fun ob => (RowAt.of_own hown).below (below_alloc1 _ _)
                            have hle1 : ∀ ob, LE (w7.alloc ob) w5.heap.size 59 4 (.slice Lq x cM) x (mendTo (rowsB a h bs) z k j) := fun ob => (hle.below hb7).below (below_alloc1 _ _)
                            have hsz : ∀ ob, w5.heap.size ≤ (w7.alloc ob).heap.size := fun ob => size_alloc_le hbel7.size ob
                            have hbl1 : ∀ ob, Below w5.heap.size w5 (w7.alloc ob) := fun ob => hbel7.alloc hbel7.size ob
                            clear c0 c1 c2
                            go_wp2_with (at_builtin; go_loud (refine wpList_ev _ rfl (.tmp 74) (.tmp 79) 22 rfl w5.heap.size 59 4 i0 (.agg #[.int .u8 0, .slice none 0 0]) Try.underlying22 hi hz0 hz1 hz2' rfl (by decide) (.slice Lq x cM) x _ rfl (hle1 _) w7.heap.size 1 Ar a cr (rowB a bs (k + j)) rfl (Blk.new _ _ _) (HRL.out (k + j) hltj) (hrow _) (by omega) (hsz _) ?_))
                            intro gg cap w6 hle6 hg6 hbg6
                            go_wp2_with fail
                            go_roundw
                            case rel => exact ⟨j + 1, x + 1, cap, _, by omega, by go_num, rfl, by have := HX.out; omega, by rw [mendTo_succ (rowsB_at (a := a) (bs := bs) hltj)]; exact hle6, (hbl1 _).grown hg6 (hsz _) hbg6⟩
                            case measure => simp [intOf]; omega
                        · omega
                      · have hjq : j = h - k := by omega
                        have HLN := Lib.hid (show (mendL (rowsB a h bs) ps).length = x by
                          have h1 := mendTo_len (rowsB a h bs) z k
                          rw [rowsB_len] at h1
                          unfold mendL
                          rw [HPR.out, HST.out, rowsB_len, rowsB_len, ← HZZ.out, h1, HX.out, hjq])
                        rw [show mendTo (rowsB a h bs) z k j = mendL (rowsB a h bs) ps by
                          unfold mendL
                          rw [HPR.out, HST.out, rowsB_len, rowsB_len, ← HZZ.out, hjq]] at hle
                        obtain ⟨A3, c3, e3, h3, h4⟩ := hle.shape
                        injection e3 with e4 _ e5
                        subst e4 e5
                        by_cases hbig : 400 < n' + x
                        · have hd : decide (400 < ((n' : Nat) : Int) + ((x : Nat) : Int)) = true := decide_eq_true (by omega)
                          have hd2 : decide (400 < (((n' + x : Nat)) : Int)) = true := decide_eq_true (by omega)
                          have HXX := Lib.hid (HX2.out (by rw [HLG.out, HLN.out]; exact hbig))
                          go_wp2_with fail
                          go_ret2
                          exact retE_bad HXX.out S5.below
                        · have hd : decide (400 < ((n' : Nat) : Int) + ((x : Nat) : Int)) = false := decide_eq_false (by omega)
                          have hd2 : decide (400 < (((n' + x : Nat)) : Int)) = false := decide_eq_false (by omega)
                          have HXX := Lib.hid (HX3.out (by rw [HLG.out, HLN.out]; exact hbig))
                          go_wp2_with fail
                          go_ret2
                          rw [HXX.out]
                          exact ⟨_, _, _, rfl, hle.read, h3, h4, S5.below⟩
            · clear hgo
              have hb35 := hb34
              go_wp2_with fail
              clear hb34 S4 hbg4 c0 c1 c2 d0 d1 d2
              revert hb35
              generalize wr = w5
              intro hb35
              go_wp2_with fail
              go_loopw [11, 10] (fun i u wr => ∃ (y cL : Nat) (Lp : Option Addr), k ≤ y ∧ y ≤ kt ∧ i = .int .i64 y ∧ u = .slice Lp (y - k) cL ∧ LE wr w5.heap.size 59 4 (.slice Lp (y - k) cL) (y - k) (mendTo (rowsB a h bs) (y - k) k 0) ∧ Below w5.heap.size w5 wr) (fun i _ _ => kt - (intOf i).toNat)
              case atStart => exact ⟨k, 0, none, Nat.le_refl _, hk2, rfl, by rw [Nat.sub_self], by rw [Nat.sub_self, mendTo_zero]; exact LE.nil _ _ _ _, Below.refl _ _⟩
              case round =>
                obtain ⟨y, cL, Lp, hky, hyh, rfl, rfl, hle, hbel⟩ := hrel
                have hbel2 := below_then hb35 hbel
                have hbg5 := hbg.keep hbel2
                have S5 := S3.keep hbel2
                obtain ⟨c0, c1, c2⟩ := (S5.blk 1 rfl).cell3
                obtain ⟨d0, d1, d2⟩ := hbg5.cell3
                obtain ⟨z, hz⟩ : ∃ z, y - k = z := ⟨_, rfl⟩
                rw [hz] at hle ⊢
                have hzA : y ≤ k + z := by omega
                have hzB : k + z ≤ y := by omega
                clear hz
                by_cases hlt : y < kt
                · by_cases hkk : k < kt
                  · try omega
                    all_goals
                      have hrow : ∀ ob, RowAt (wr.alloc ob) w5.heap.size 4 none [] := fun ob => ⟨Rd.nil_, fun b' o' e => by cases e⟩
                      have hle1 : ∀ ob, LE (wr.alloc ob) w5.heap.size 59 4 (.slice Lp z cL) z (mendTo (rowsB a h bs) z k 0) := fun ob => hle.below (below_alloc1 _ _)
                      have hsz : ∀ ob, w5.heap.size ≤ (wr.alloc ob).heap.size := fun ob => size_alloc_le hbel.size ob
                      have hbl1 : ∀ ob, Below w5.heap.size w5 (wr.alloc ob) := fun ob => hbel.alloc hbel.size ob
                      go_wp2_with (at_builtin; go_loud (refine wpList_ev _ rfl (.tmp 63) (.tmp 65) 22 rfl w5.heap.size 59 4 i0 (.agg #[.int .u8 0, .slice none 0 0]) Try.underlying22 hi hz0 hz1 hz2' rfl (by decide) (.slice Lp z cL) z _ rfl (hle1 _) wr.heap.size 2 none 0 0 [] rfl (Blk.new _ _ _) rfl (hrow _) (by omega) (hsz _) ?_))
                      intro gg cap w6 hle6 hg6 hbg6
                      go_wp2_with fail
                      go_roundw
                      case rel => exact ⟨y + 1, cap, _, by omega, by omega, by go_num, by rw [show y + 1 - k = z + 1 by omega], by rw [show y + 1 - k = z + 1 by omega, mendTo_back]; exact hle6, (hbl1 _).grown hg6 (hsz _) hbg6⟩
                      case measure => simp [intOf]; omega
                  · omega
                · have hzz : z = kt - k := by omega
                  have HZZ := Lib.hid hzz
                  clear hzz
                  go_wp2_with fail
                  clear c0 c1 c2 d0 d1 d2 hbg5
                  go_loopw [12, 10] (fun i u wz => ∃ (j x cM : Nat) (Lq : Option Addr), k + j ≤ h ∧ i = .int .i64 ((k + j : Nat) : Int) ∧ u = .slice Lq x cM ∧ x = z + j ∧ LE wz w5.heap.size 59 4 (.slice Lq x cM) x (mendTo (rowsB a h bs) z k j) ∧ Below w5.heap.size w5 wz) (fun i _ _ => h - (intOf i).toNat)
                  case atStart => exact ⟨0, z, cL, Lp, hk, rfl, rfl, rfl, hle, hbel⟩
                  case round =>
                    clear hle hbel hbel2 S5
                    obtain ⟨j, x, cM, Lq, hkj, rfl, rfl, hx, hle, hbel⟩ := hrel
                    have HX := Lib.hid hx
                    have hx2 : x ≤ 200 := by omega
                    clear hx
                    have hbel2 := below_then hb35 hbel
                    have S5 := S3.keep hbel2
                    obtain ⟨c0, c1, c2⟩ := (S5.blk 1 rfl).cell3
                    by_cases hltj : k + j < h
                    · by_cases hkk : k < h
                      · try omega
                        all_goals
                          go_wp2_with fail
                          refine (HROW.out (k + j) hltj _ S5.below).mono ?_
                          rintro e w7 ⟨Ar, cr, rfl, hown, hb7⟩
                          have hbel7 := below_then hbel hb7
                          have hrow : ∀ ob, RowAt (w7.alloc ob) w5.heap.size 4 Ar (rowB a bs (k + j)) := fun ob => (RowAt.of_own hown).below (below_alloc1 _ _)
                          have hle1 : ∀ ob, LE (w7.alloc ob) w5.heap.size 59 4 (.slice Lq x cM) x (mendTo (rowsB a h bs) z k j) := fun ob => (hle.below hb7).below (below_alloc1 _ _)
                          have hsz : ∀ ob, w5.heap.size ≤ (w7.alloc ob).heap.size := fun ob => size_alloc_le hbel7.size ob
                          have hbl1 : ∀ ob, Below w5.heap.size w5 (w7.alloc ob) := fun ob => hbel7.alloc hbel7.size ob
                          clear c0 c1 c2
                          go_wp2_with (at_builtin; go_loud (refine wpList_ev _ rfl (.tmp 74) (.tmp 79) 22 rfl w5.heap.size 59 4 i0 (.agg #[.int .u8 0, .slice none 0 0]) Try.underlying22 hi hz0 hz1 hz2' rfl (by decide) (.slice Lq x cM) x _ rfl (hle1 _) w7.heap.size 1 Ar a cr (rowB a bs (k + j)) rfl (Blk.new _ _ _) (HRL.out (k + j) hltj) (hrow _) (by omega) (hsz _) ?_))
                          intro gg cap w6 hle6 hg6 hbg6
                          go_wp2_with fail
                          go_roundw
                          case rel => exact ⟨j + 1, x + 1, cap, _, by omega, by go_num, rfl, by have := HX.out; omega, by rw [mendTo_succ (rowsB_at (a := a) (bs := bs) hltj)]; exact hle6, (hbl1 _).grown hg6 (hsz _) hbg6⟩
                          case measure => simp [intOf]; omega
                      · omega
                    · have hjq : j = h - k := by omega
                      have HLN := Lib.hid (show (mendL (rowsB a h bs) ps).length = x by
                        have h1 := mendTo_len (rowsB a h bs) z k
                        rw [rowsB_len] at h1
                        unfold mendL
                        rw [HPR.out, HST.out, rowsB_len, rowsB_len, ← HZZ.out, h1, HX.out, hjq])
                      rw [show mendTo (rowsB a h bs) z k j = mendL (rowsB a h bs) ps by
                        unfold mendL
                        rw [HPR.out, HST.out, rowsB_len, rowsB_len, ← HZZ.out, hjq]] at hle
                      obtain ⟨A3, c3, e3, h3, h4⟩ := hle.shape
                      injection e3 with e4 _ e5
                      subst e4 e5
                      by_cases hbig : 400 < n' + x
                      · have hd : decide (400 < ((n' : Nat) : Int) + ((x : Nat) : Int)) = true := decide_eq_true (by omega)
                        have hd2 : decide (400 < (((n' + x : Nat)) : Int)) = true := decide_eq_true (by omega)
                        have HXX := Lib.hid (HX2.out (by rw [HLG.out, HLN.out]; exact hbig))
                        go_wp2_with fail
                        go_ret2
                        exact retE_bad HXX.out S5.below
                      · have hd : decide (400 < ((n' : Nat) : Int) + ((x : Nat) : Int)) = false := decide_eq_false (by omega)
                        have hd2 : decide (400 < (((n' + x : Nat)) : Int)) = false := decide_eq_false (by omega)
                        have HXX := Lib.hid (HX3.out (by rw [HLG.out, HLN.out]; exact hbig))
                        go_wp2_with fail
                        go_ret2
                        rw [HXX.out]
                        exact ⟨_, _, _, rfl, hle.read, h3, h4, S5.below⟩
    · have HXX := Lib.hid (HX1.out ht)
      have htb : ((runE a lg).1 != 0) = true := by simpa using ht
      generalize (runE a lg).1 = t at *
      clear hown
      go_wp2_with fail
      go_ret2
      exact retE_bad HXX.out S2.below
  · have hkb : (chkP W H n != 0) = true := by simpa using hk
    have HX := Lib.hid (mendE_bad (W := W) (H := H) (bs := bs) (l := lg) (by rw [hl]; exact hk))
    rw [hl] at HX
    clear hr hl hk
    generalize chkP W H n = K at *
    go_enter Try.func18, Try.ntmps18
    go_wp2_with fail
    refine (HP.out _).mono ?_
    rintro e w1 ⟨rfl, hb1⟩
    have S1 := S0.keep hb1
    clear c0 c1 c2
    obtain ⟨c0, c1, c2⟩ := (S1.blk 1 rfl).cell3
    go_wp2_with fail
    refine (HP.out _).mono ?_
    rintro e w2 ⟨rfl, hb2⟩
    go_wp2_with fail
    go_ret2
    exact retE_bad HX.out (S1.keep hb2).below
end Go.Proofs.Ytfjdlbilnoojkaa
