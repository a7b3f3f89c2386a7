/- loomlog.Mend: the events that are needed behind a log. -/
import Derived.Test.YtfjdlbilnoojkaaRunz
import Derived.Test.YtfjdlbilnoojkaaShortz
import Derived.Test.YtfjdlbilnoojkaaCommonz
import Derived.Test.YtfjdlbilnoojkaaRepEz
namespace Go.Proofs.Ytfjdlbilnoojkaa
open Go.RowKit

/-- The events that mend: backs, and the first j picks behind the common ones. -/
def mendTo (a : List (List Bool)) (m k j : Nat) : List Ev := List.replicate m ((2 : Int), ([] : List Bool)) ++ ((a.drop k).take j).map fun r => ((1 : Int), r)
theorem mendTo_zero (a : List (List Bool)) (m k : Nat) : mendTo a m k 0 = List.replicate m ((2 : Int), ([] : List Bool)) := by simp [mendTo]
theorem mendTo_succ {a : List (List Bool)} {m k j : Nat} {r : List Bool} (h : a[k + j]? = some r) : mendTo a m k (j + 1) = mendTo a m k j ++ [((1 : Int), r)] := by
  unfold mendTo
  have h1 : (a.drop k)[j]? = some r := by rw [List.getElem?_drop]; exact h
  rw [take_snoc h1, List.map_append, List.append_assoc]; rfl
theorem mendTo_len (a : List (List Bool)) (m k : Nat) : (mendTo a m k (a.length - k)).length = m + (a.length - k) := by
  unfold mendTo
  rw [List.length_append, List.length_replicate, List.length_map, List.length_take, List.length_drop, Nat.min_self]
/-- The events that mend. -/
def mendL (a p : List (List Bool)) : List Ev := mendTo a (p.length - comL a p) (comL a p) (a.length - comL a p)
/-- What Mend answers. -/
def mendE (W H : Int) (bs : List Bool) (l : List Ev) : List Ev × Int :=
  if chkP W H bs.length ≠ 0 then ([], chkP W H bs.length) else if (runE W l).1 ≠ 0 then ([], (runE W l).1)
  else if 400 < l.length + (mendL (rowsB W.toNat H.toNat bs) (runE W l).2).length then ([], 4) else (mendL (rowsB W.toNat H.toNat bs) (runE W l).2, 0)
theorem mendE_bad {W H : Int} {bs : List Bool} {l : List Ev} (h : chkP W H bs.length ≠ 0) : mendE W H bs l = ([], chkP W H bs.length) := by unfold mendE; rw [if_pos h]
theorem mendE_err {W H : Int} {bs : List Bool} {l : List Ev} (h : chkP W H bs.length = 0) (h2 : (runE W l).1 ≠ 0) : mendE W H bs l = ([], (runE W l).1) := by unfold mendE; rw [if_neg (by simpa using h), if_pos h2]
theorem mendE_many {a h : Nat} {bs : List Bool} {l : List Ev} {p : List (List Bool)} (hc : chkP a h bs.length = 0) (hr : runE a l = (0, p)) (h2 : 400 < l.length + (mendL (rowsB a h bs) p).length) : mendE a h bs l = ([], 4) := by
  unfold mendE
  rw [if_neg (by simpa using hc), if_neg (by rw [hr]; simp), hr]
  exact if_pos h2
theorem mendE_ok {a h : Nat} {bs : List Bool} {l : List Ev} {p : List (List Bool)} (hc : chkP a h bs.length = 0) (hr : runE a l = (0, p)) (h2 : ¬ 400 < l.length + (mendL (rowsB a h bs) p).length) : mendE a h bs l = (mendL (rowsB a h bs) p, 0) := by
  unfold mendE
  rw [if_neg (by simpa using hc), if_neg (by rw [hr]; simp), hr]
  exact if_neg h2
theorem rowsB_len (a h : Nat) (bs : List Bool) : (rowsB a h bs).length = h := by simp [rowsB]
theorem runE_le {N : Int} {l : List Ev} : (runE N l).2.length ≤ 64 := by
  unfold runE
  split
  · simp
  · split
    · simp
    · exact runL_len l
set_option maxHeartbeats 6000000 in
set_option maxRecDepth 100000 in
theorem mend_any (W H : Int) (bs : List Bool) (A : Option Addr) (n c : Nat) (lg : List Ev) (A' : Option Addr) (n' c' : Nat) (w : World) (hr : Rd w A n (bs.map Value.bool)) (hnc : n ≤ c) (hlg : LogR w A' n' lg) (hn' : n' ≤ 1048576) :
    Calls Try.prog 17 #[.agg #[.int .i64 W, .int .i64 H, .slice A n c], .slice A' n' c'] w (RetE (mendE W H bs lg) w) := by
  have hl : bs.length = n := by simpa using hr.len
  have HLG := Lib.hid hlg.len
  have S0 := ((St.start w).addRd hr).box #[.int .i64 W, .int .i64 H, .slice A n c] 25
  simp only [List.nil_append, List.cons_append] at S0
  have HP := Lib.hid (fun w => pcheck_any W H A n c w)
  have HRUN := Lib.hid (fun u (hu : Below w.heap.size w u) => run_any W lg A' n' c' u (hlg.below hu))
  obtain ⟨c0, c1, c2⟩ := (S0.blk 1 rfl).cell3
  by_cases hk : chkP W H n = 0
  · have HX1 := Lib.hid (mendE_err (W := W) (H := H) (bs := bs) (l := lg) (by rw [hl]; exact hk))
    have HK := Lib.hid (show chkP W H bs.length = 0 by rw [hl]; exact hk)
    obtain ⟨a, h, rfl, rfl, ha1, ha, hh1, hh, hn⟩ := chkP_zero hk
    have hkb : (chkP a h n != 0) = false := by simpa using hk
    have HX2 := Lib.hid (fun p (hp : runE a lg = (0, p)) => mendE_many (a := a) (h := h) (bs := bs) (l := lg) (p := p) HK.out hp)
    have HX3 := Lib.hid (fun p (hp : runE a lg = (0, p)) => mendE_ok (a := a) (h := h) (bs := bs) (l := lg) (p := p) HK.out hp)
    have HPK := Lib.hid (fun u (hu : Below w.heap.size w u) => picks_cap a h bs A n c u ha1 (by omega) hh1 hh (by rw [hl]; exact hn) (hr.below hu) hnc)
    have HRL := Lib.hid (fun k (hk : k < h) => rowB_len (a := a) (h := h) (bs := bs) (by rw [hl]; exact hn) hk)
    have HLE := Lib.hid (runE_le (N := a) (l := lg))
    obtain ⟨i0, hi, hz0, hz1, hz2'⟩ := info_parts2 Try.infoEv
    clear hr hl hn hk hlg
    generalize mendE a h bs lg = R at *
    generalize chkP a h n = K at *
    go_enter Try.func17, Try.ntmps17
    go_wp2_with fail
    refine (HP.out _).mono ?_
    rintro e w1 ⟨rfl, hb1⟩
    have S1 := S0.keep hb1
    clear c0 c1 c2
    obtain ⟨c0, c1, c2⟩ := (S1.blk 1 rfl).cell3
    go_wp2_with fail
    have HR1 := HRUN.out _ S1.below
    unfold RunRet at HR1
    refine HR1.mono ?_
    clear HR1
    rintro e w2 (⟨lb, rfl, ht, hL⟩ | ⟨t', rfl, ht2, ht, hb2⟩)
    · obtain ⟨ps, hps⟩ : ∃ ps, runE a lg = (0, ps) := ⟨_, Prod.ext ht rfl⟩
      have HPS := Lib.hid hps
      rw [hps] at hL HLE
      simp only at hL HLE
      have S2 := S1.keep hL.below
      clear ht hps c0 c1 c2
      obtain ⟨c0, c1, c2⟩ := (S2.blk 1 rfl).cell3
      go_wp2_with fail
      refine (HPK.out _ S2.below).mono ?_
      rintro e w3 ⟨A2, cc, rfl, hrb, hb3, hcc⟩
      have S3 := S2.keep hb3
      have hL3 := hL.keep hb3
      clear c0 c1 c2 hL
      obtain ⟨v, hbx, hlu⟩ := hL3.bx
      obtain ⟨B, cB, rfl, hncB, _⟩ := hlu.shape
      have hLR := hlu.read
      obtain ⟨np, hnp⟩ : ∃ np, ps.length = np := ⟨_, rfl⟩
      have hnp64 : np ≤ 64 := by have := HLE.out; omega
      rw [hnp] at hbx hncB
      have k0 := hbx.cell 0
      have HCM := Lib.hid (common_any (rowsB a h bs) ps A2 B h np cc cB w3 (rowsB_len a h bs) hnp hrb hLR (fun r hr => by obtain ⟨y, hy, rfl⟩ := List.mem_map.1 hr; rw [HRL.out y (List.mem_range.1 hy)]; omega) (by omega))
      have hkle := com_le (rowsB a h bs) ps
      rw [rowsB_len, hnp] at hkle
      have HML := Lib.hid (show mendL (rowsB a h bs) ps = mendTo (rowsB a h bs) (np - comL (rowsB a h bs) ps) (comL (rowsB a h bs) ps) (h - comL (rowsB a h bs) ps) by unfold mendL; rw [hnp, rowsB_len])
      have HMN := Lib.hid (show (mendTo (rowsB a h bs) (np - comL (rowsB a h bs) ps) (comL (rowsB a h bs) ps) (h - comL (rowsB a h bs) ps)).length = (np - comL (rowsB a h bs) ps) + (h - comL (rowsB a h bs) ps) by have h1 := mendTo_len (rowsB a h bs) (np - comL (rowsB a h bs) ps) (comL (rowsB a h bs) ps); rw [rowsB_len] at h1; exact h1)
      obtain ⟨bA, oA, _, _, hA2, hbA, _, _⟩ := hrb.at_ (i := 0) (rowsB_at (a := a) (bs := bs) (by omega))
      subst hA2
      clear hlu hLR hL3 hnp
      generalize comL (rowsB a h bs) ps = k at *
      go_wp2_with fail
      refine HCM.out.mono ?_
      rintro e w4 ⟨rfl, m4, hw4⟩
      have hb4 : Below w3.heap.size w3 w4 := by rw [hw4]; exact below_drewN (Below.refl _ _) m4
      have S4 := S3.keep hb4
      have hbx4 := hbx.keep hb4
      have hrb4 := hrb.below hb4
      have hbA4 : bA < w4.heap.size := Nat.lt_of_lt_of_le hbA hb4.size
      clear hw4 hbx hrb hbA k0
      obtain ⟨m, hm⟩ : ∃ m, m = np - k := ⟨_, rfl⟩
      have hsub : IntKind.i64.wrap ((np : Int) - (k : Int)) = (m : Int) := by rw [wrap_small _ (by omega) (by omega)]; omega
      have hbx5 := hbx4.keep (below_alloc1 w4 (.cells #[.int .u8 2, .slice none 0 0] 59))
      have k0 := hbx5.cell 0
      have HRE := Lib.hid (repE_any w4.heap.size m _ (Blk.new w4 59 #[.int .u8 2, .slice none 0 0]) (by omega))
      rw [← hm] at HML HMN
      have hm64 : m ≤ 64 := by omega
      clear hm
      go_wp2_with fail
      refine HRE.out.mono ?_
      rintro e w5 ⟨A5, c5, rfl, hle5, hb5⟩
      have hb45 := below_then (below_alloc1 w4 _) hb5
      have hcap : k ≤ cc := by omega
      simp only [size_alloc1] at hle5
      clear k0 hbx5 hbx4 HRE HCM
      have HSUB : Hid (IntKind.i64.wrap ((h : Int) - (k : Int)) = ((h - k : Nat) : Int)) := by show _ = _; rw [wrap_small _ (by omega) (by omega)]; omega
      have hkh : k ≤ h := hkle.1
      obtain ⟨q, hq⟩ : ∃ q, q = h - k := ⟨_, rfl⟩
      have hq1 : k + q ≤ h := by omega
      have hq2 : h ≤ k + q := by omega
      have HQ := Lib.hid hq
      clear hq
      by_cases hck : cc = k
      all_goals
        go_wp2_with fail
        rw [← HQ.out]
        go_loopw [51, 11] (fun i u wr => ∃ (j z cB' : Nat) (B' : Option Addr), j ≤ q ∧ i = .int .i64 j ∧ u = .slice B' z cB' ∧ z = m + j ∧ LE wr (w4.heap.size + 1) 59 4 (.slice B' z cB') z (mendTo (rowsB a h bs) m k j) ∧ Below w4.heap.size w4 wr) (fun i _ _ => q - (intOf i).toNat)
        case atStart => exact ⟨0, m, c5, A5, Nat.zero_le _, rfl, rfl, rfl, by rw [mendTo_zero]; exact hle5, hb45⟩
        case round =>
          obtain ⟨j, z, cB', B', hj, rfl, rfl, hz, hle, hbel⟩ := hrel
          have HZ := Lib.hid hz
          have hz2 : z ≤ 200 := by omega
          clear hz
          have hlt0 : cc = k → ¬ j < q := fun _ => by omega
          by_cases hlt : j < q
          · try (exact absurd hlt (hlt0 hck))
            all_goals
              have hkj : k + j < h := by omega
              obtain ⟨Ar, cr, d0, hrl⟩ := hrb4.lit (rowsB_at (a := a) (bs := bs) hkj)
              have hrl2 := hrl.below hbel
              have d1 : wr.cell? ⟨bA, oA + k + j, none⟩ = some (.slice Ar (rowB a bs (k + j)).length cr) := by rw [Nat.add_assoc]; exact (hbel.cell (p := ⟨bA, oA + (k + j), none⟩) hbA4).trans d0
              have hrow : ∀ ob, RowAt (wr.alloc ob) (w4.heap.size + 1) 4 Ar (rowB a bs (k + j)) := fun ob => ⟨hrl2.alloc _, fun b' o' e hl' => .inl (Nat.lt_succ_of_lt (hrl.lt b' o' e hl'))⟩
              rw [HRL.out (k + j) hkj] at d1 hrl2
              have hle1 : ∀ ob, LE (wr.alloc ob) (w4.heap.size + 1) 59 4 (.slice B' z cB') z (mendTo (rowsB a h bs) m k j) := fun ob => hle.below (below_alloc1 _ _)
              have hsz : ∀ ob, w4.heap.size + 1 ≤ (wr.alloc ob).heap.size := fun ob => by have h1 := hbel.size; simp; omega
              have hbl1 : ∀ ob, Below w4.heap.size w4 (wr.alloc ob) := fun ob => hbel.alloc hbel.size ob
              clear d0 hrl
              go_wp2_with (at_builtin; go_loud (refine wpList_ev _ rfl (.tmp 55) (.tmp 58) 22 rfl (w4.heap.size + 1) 59 4 i0 (.agg #[.int .u8 0, .slice none 0 0]) Try.underlying22 hi hz0 hz1 hz2' rfl (by decide) (.slice B' z cB') z _ rfl (hle1 _) wr.heap.size 1 Ar a cr (rowB a bs (k + j)) rfl (Blk.new _ _ _) (HRL.out (k + j) hkj) (hrow _) (by omega) (hsz _) ?_))
              intro g cap w6 hle6 hg6 hbg
              go_wp2_with fail
              go_roundw
              case rel => exact ⟨j + 1, z + 1, cap, _, by omega, by go_num, rfl, by have := HZ.out; omega, by rw [mendTo_succ (rowsB_at (a := a) (bs := bs) hkj)]; exact hle6, (hbl1 _).grown hg6 (Nat.le_of_succ_le (hsz _)) (fun g e => Nat.le_of_succ_le (hbg g e))⟩
              case measure => simp [intOf]; omega
          · have hjq : j = q := by omega
            have HLN := Lib.hid (show (mendL (rowsB a h bs) ps).length = z by rw [HML.out, HMN.out, HZ.out, hjq, HQ.out])
            rw [hjq, HQ.out, ← HML.out] at hle
            have S9 := S4.keep hbel
            obtain ⟨A3, c3, e3, h3, h4⟩ := hle.shape
            injection e3 with e4 _ e5
            subst e4 e5
            by_cases hbig : 400 < n' + z
            · have hd : decide (400 < ((n' : Nat) : Int) + ((z : Nat) : Int)) = true := decide_eq_true (by omega)
              have hd2 : decide (400 < (((n' + z : Nat)) : Int)) = true := decide_eq_true (by omega)
              have HXX := Lib.hid (HX2.out ps HPS.out (by rw [HLG.out, HLN.out]; exact hbig))
              go_wp2_with fail
              go_ret2
              exact retE_bad HXX.out S9.below
            · have hd : decide (400 < ((n' : Nat) : Int) + ((z : Nat) : Int)) = false := decide_eq_false (by omega)
              have hd2 : decide (400 < (((n' + z : Nat)) : Int)) = false := decide_eq_false (by omega)
              have HXX := Lib.hid (HX3.out ps HPS.out (by rw [HLG.out, HLN.out]; exact hbig))
              go_wp2_with fail
              go_ret2
              rw [HXX.out]
              exact ⟨_, _, _, rfl, hle.read, h3, h4, S9.below⟩
    · have HXX := Lib.hid (HX1.out ht)
      rw [← ht2] at HXX
      have htb : (t' != 0) = true := by rw [ht2]; simpa using ht
      clear ht ht2
      go_wp2_with fail
      go_ret2
      exact retE_bad HXX.out (S1.keep hb2).below
  · have hkb : (chkP W H n != 0) = true := by simpa using hk
    have HX := Lib.hid (mendE_bad (W := W) (H := H) (bs := bs) (l := lg) (by rw [hl]; exact hk))
    rw [hl] at HX
    clear hr hl hk
    generalize chkP W H n = K at *
    go_enter Try.func17, Try.ntmps17
    go_wp2_with fail
    refine (HP.out _).mono ?_
    rintro e w1 ⟨rfl, hb1⟩
    go_wp2_with fail
    go_ret2
    exact retE_bad HX.out (S0.keep hb1).below
end Go.Proofs.Ytfjdlbilnoojkaa
