/- raddleref09.Twill. -/
import Derived.Test.YtbgekiifffnalaaTwP
import Derived.Test.YtbgekiifffnalaaRTw
import Derived.Test.YtbgekiifffnalaaFill
import Derived.Test.YtbgekiifffnalaaRd2
import Derived.Test.YtbgekiifffnalaaRCell
import Derived.Test.YtbgekiifffnalaaGcd
import Derived.Test.YtbgekiifffnalaaMod
import Derived.BigRegion
import Derived.Deep.RegionHeld3
namespace Go.Proofs.Ytbgekiifffnalaa
open Go.RowKit

theorem bool_cell {w : World} {bl o n k : Nat} {l : List Bool} (h : Rd w (some ⟨bl, o, none⟩) n (l.map Value.bool)) (hk : k < n) : w.cell? ⟨bl, o + k, none⟩ = some (.bool (l.getD k false)) := by
  have hl : l.length = n := by simpa using h.len
  exact h.lit k _ (by rw [List.getElem?_map, List.getElem?_eq_getElem (by omega)]; simp [List.getD, show k < l.length by omega])

theorem row_cell {w : World} {g n k : Nat} {b : Bool} {L : List Bool} (h : Rd w (some ⟨g, 0, none⟩) n (L.map Value.bool)) (hk : k < n) (hF : b = L.getD k false) : w.cell? ⟨g, k, none⟩ = some (.bool b) := by
  have := bool_cell h hk
  rw [Nat.zero_add] at this
  rw [this, hF]
theorem rd_ne {g g' n : Nat} (h : g ≠ g') : ∀ b o, (some ⟨g, 0, none⟩ : Option Addr) = some ⟨b, o, none⟩ → 0 < n → some b ≠ some g' := by
  intro b o hA _ e
  cases hA; cases e; exact h rfl
theorem i64_same {z : Int} (h1 : -1000000 ≤ z) (h2 : z ≤ 1000000) : IntKind.i64.wrap z = z := IntWalk.i64_in _ (by omega)
theorem mod9_to (X : Int) (n k : Nat) (w : World) (h1 : 1 ≤ n) (h2 : n ≤ 1000000) (h : X % (n : Int) = (k : Int)) :
    Calls Try.prog 31 #[.int .i64 X, .int .i64 n] w fun e w' => e = .returned (.int .i64 (k : Int)) ∧ w' = w := by
  have := mod_any X (n : Int) w (by omega) (by omega)
  rw [h] at this
  exact this
set_option maxHeartbeats 2000000 in
set_option maxRecDepth 100000 in
theorem rtwill_any (runs : List Int) (step : Int) (A0 : Option Addr) (n0 c0 : Nat) (w : World) (hr : Rd w A0 n0 (runs.map (Value.int .i64))) (hn0 : n0 ≤ 1048576) :
    Calls Try.prog 21 #[.slice A0 n0 c0, .int .i64 step] w (RetG (twillG runs step) w) := by
  have S0 := ((St.start w).addRd hr).box #[.int .i64 0, .int .i64 0, .slice none 0 0] 24
  simp only [List.nil_append, List.cons_append] at S0
  have hl0 : runs.length = n0 := by simpa using hr.len
  have HP := Lib.hid (valid_any runs A0 n0 c0 _ (S0.rd 0 rfl) hn0)
  obtain ⟨vb, hvb⟩ : ∃ vb, validB runs = vb := ⟨_, rfl⟩
  cases vb with
  | false =>
    rw [twillG_no hvb]
    have HV := Lib.hid hvb
    clear hvb hr
    go_enter Try.func21, Try.ntmps21
    go_wp2_with fail
    refine HP.out.mono ?_
    rintro e w1 ⟨rfl, rfl⟩
    rw [HV.out]
    go_wp2_with fail
    refine bodyPost_ret (v := .tuple #[.agg #[.int .i64 0, .int .i64 0, .slice none 0 0], .int .i64 8]) (by simp [results, Try.results21, go_sem]) rfl ?_
    exact bad_ret rfl S0.below
  | true =>
    obtain ⟨L, hL⟩ : ∃ L, rowK runs n0 = L := ⟨_, rfl⟩
    obtain ⟨⟨hv1, hv2, _⟩, hv3⟩ := validB_open hvb
    obtain ⟨n, hn⟩ : ∃ n, L.length = n := ⟨_, rfl⟩
    have hps := preS_bound (runs := runs) (k := n0) (by omega) (fun j hj => hv3 j (by omega))
    have hrl := rowK_length (runs := runs) (k := n0) (by omega) (fun j hj => hv3 j (by omega))
    have hmono : 1 ≤ n := by
      rw [← hn, ← hL]
      obtain ⟨k, hk⟩ : ∃ k, n0 = k + 1 := ⟨n0 - 1, by omega⟩
      have hk1 := hv3 k (by omega)
      unfold okAt at hk1
      rw [decide_eq_true_eq] at hk1
      rw [hk, rowK_succ, List.length_append, List.length_replicate]
      omega
    have hn64 : n ≤ 64 := by rw [← hn, ← hL]; omega
    clear hps hrl hv1 hv2 hv3
    obtain ⟨s, hs⟩ : ∃ s, (step % (n : Int)).toNat = s := ⟨_, rfl⟩
    have hs0 := Int.emod_nonneg step (show (n : Int) ≠ 0 by omega)
    have hs1 := Int.emod_lt_of_pos step (show 0 < (n : Int) by omega)
    rw [twillG_yes hvb (hl0 ▸ hL) hn hs]
    have HV := Lib.hid hvb
    have HR := Lib.hid (fun W h => rrow_any runs A0 n0 c0 W h hvb)
    have HL := Lib.hid hL
    have HN := Lib.hid hn
    have hsI : step % (n : Int) = (s : Int) := by omega
    have hs64 : s < n := by omega
    have hT1 := twH_pos (n := n) (s := s) (by omega)
    have hT2 := twH_le n s
    have HM := Lib.hid (fun W => mod_any step (n : Int) W (by omega) (by omega))
    have HMx := Lib.hid (fun x W => mod_any x (n : Int) W (by omega) (by omega))
    have HG := Lib.hid (fun W => gcd_any n s W (by omega))
    have HQ := Lib.hid (show (n : Int).tdiv ((Nat.gcd n s : Nat) : Int) = ((twH n s : Nat) : Int) by rw [Int.tdiv_eq_ediv_of_nonneg (by omega)]; unfold twH; exact (Int.natCast_ediv n (Nat.gcd n s)).symm)
    have hg0 : 1 ≤ Nat.gcd n s := Nat.gcd_pos_of_pos_left s (by omega)
    have hg1 : Nat.gcd n s ≤ n := Nat.le_of_dvd (by omega) (Nat.gcd_dvd_left n s)
    have HZ := Lib.hid (fun W => zero_any n (twH n s) W hn64 (by omega))
    clear hvb hr hL hn hs hs0 hs1
    generalize Nat.gcd n s = gg at *
    generalize hH : twH n s = H at *
    have hg2 : ¬ (gg : Int) = 0 := by omega
    have hg3 : ¬ gg = 0 := by omega
    have hq1 := HQ.out
    have hq2 : (n : Int) / (gg : Int) = (H : Int) := by rw [← hq1, Int.tdiv_eq_ediv_of_nonneg (by omega)]
    go_enter Try.func21, Try.ntmps21
    go_wp2_with fail
    refine HP.out.mono ?_
    rintro e w1 ⟨rfl, rfl⟩
    rw [HV.out]
    go_wp2_with fail
    refine (HR.out _ (S0.rd 0 rfl)).mono ?_
    rintro e w1 ⟨A1, n1, c1, rfl, hown1, hb1⟩
    rw [HL.out] at hown1
    have hn1' : n1 = n := by have := hown1.1; simp at this; have := HN.out; omega
    subst hn1'
    obtain ⟨g1, rfl, _, hg1, hnc⟩ := own_form hown1 (by omega)
    have hrd1 := rd_of_own hown1
    have S1 := (S0.keep hb1).addRd hrd1
    simp only [List.nil_append, List.cons_append] at S1
    clear hown1 hrd1 hb1
    go_wp2_with fail
    refine (HM.out _).mono ?_
    rintro e w2 ⟨rfl, rfl⟩
    rw [hsI]
    go_wp2_with fail
    refine (HG.out _).mono ?_
    rintro e w3 ⟨rfl, mm, rfl⟩
    have S2 := S1.drewN mm
    go_wp2_with fail
    refine (HZ.out _).mono ?_
    rintro e w3 ⟨A3, n3, c3, rfl, hown3, hb3⟩
    simp only at hown3 ⊢
    have hn3 : n3 = H * n1 := by have := hown3.1; simp at this; omega
    subst hn3
    obtain ⟨g3, rfl, hg3', hg3l, _⟩ := own_form hown3 (Nat.mul_pos (by omega) (by omega))
    have S3 := S2.keep hb3
    have hrow3 := S3.rd 2 rfl
    have hG3 := Blk.new w3 24 #[.int .i64 n1, .int .i64 H, .slice (some ⟨g3, 0, none⟩) (H * n1) c3]
    have hR3 := (S3.blk 1 rfl).alloc (.cells #[.int .i64 n1, .int .i64 H, .slice (some ⟨g3, 0, none⟩) (H * n1) c3] 24)
    have hrow4 := hrow3.alloc (.cells #[.int .i64 n1, .int .i64 H, .slice (some ⟨g3, 0, none⟩) (H * n1) c3] 24)
    have hown4 := own_base (hown3.alloc (.cells #[.int .i64 n1, .int .i64 H, .slice (some ⟨g3, 0, none⟩) (H * n1) c3] 24)) (B := w.heap.size) S2.size
    have hbel4 := S3.below.alloc S3.size (.cells #[.int .i64 n1, .int .i64 H, .slice (some ⟨g3, 0, none⟩) (H * n1) c3] 24)
    have hg13 : g1 ≠ g3 := by have := hg1; have := hg3'; simp at *; omega
    clear S0 S1 S2 S3 hown3 hb3 hrow3 hq1 hq2
    go_wp2_with fail
    go_loopw [10] (fun i wr => ∃ (y : Nat) (l : List Bool), y ≤ H ∧ i = .int .i64 y ∧ Pl.Fill (H * n1) n1 (fun y x => y * n1 + x) (fun y x => twF L s x y) l y 0 ∧
        Blk wr w3.heap.size 24 #[.int .i64 n1, .int .i64 H, .slice (some ⟨g3, 0, none⟩) (H * n1) c3] ∧
        Blk wr w.heap.size 24 #[.int .i64 0, .int .i64 0, .slice none 0 0] ∧ Rd wr (some ⟨g1, 0, none⟩) n1 (L.map Value.bool) ∧
        wr.ownsRow w.heap.size 4 1 (.slice (some ⟨g3, 0, none⟩) (H * n1) c3) (H * n1) (l.map Value.bool) ∧ Below w.heap.size w wr)
      (fun i _ => H - (intOf i).toNat)
    case atStart => exact ⟨0, _, Nat.zero_le _, rfl, Pl.Fill.start (by simp), hG3, hR3, hrow4, hown4, hbel4⟩
    case round =>
      clear hG3 hR3 hrow4 hown4 hbel4
      obtain ⟨y, l, hy, rfl, hfill, hG, hR, hrow, hown, hbel⟩ := hrel
      obtain ⟨d0, d1, d2⟩ := hG.cell3
      by_cases hlt : y < H
      · go_wp2_with fail
        go_loopw [11] (fun i wr => ∃ (x : Nat) (l : List Bool), x ≤ n1 ∧ i = .int .i64 x ∧ Pl.Fill (H * n1) n1 (fun y x => y * n1 + x) (fun y x => twF L s x y) l y x ∧
            Blk wr w3.heap.size 24 #[.int .i64 n1, .int .i64 H, .slice (some ⟨g3, 0, none⟩) (H * n1) c3] ∧
            Blk wr w.heap.size 24 #[.int .i64 0, .int .i64 0, .slice none 0 0] ∧ Rd wr (some ⟨g1, 0, none⟩) n1 (L.map Value.bool) ∧
            wr.ownsRow w.heap.size 4 1 (.slice (some ⟨g3, 0, none⟩) (H * n1) c3) (H * n1) (l.map Value.bool) ∧ Below w.heap.size w wr)
          (fun i _ => n1 - (intOf i).toNat)
        case atStart => exact ⟨0, l, Nat.zero_le _, rfl, hfill, hG, hR, hrow, hown, hbel⟩
        case round =>
          clear hfill hG hR hrow hown hbel d0 d1 d2 l
          obtain ⟨x, l, hx, rfl, hfill, hG, hR, hrow, hown, hbel⟩ := hrel
          obtain ⟨d0, d1, d2⟩ := hG.cell3
          by_cases hltx : x < n1
          · have hp0 : s * y ≤ 4096 := Nat.le_trans (Nat.mul_le_mul (show s ≤ 64 by omega) (show y ≤ 64 by omega)) (by decide)
            obtain ⟨k, hk⟩ : ∃ k : Nat, ((x : Int) - (s : Int) * (y : Int)) % (n1 : Int) = (k : Int) := ⟨(((x : Int) - (s : Int) * (y : Int)) % (n1 : Int)).toNat, (Int.toNat_of_nonneg (Int.emod_nonneg _ (by omega))).symm⟩
            have hk1 : k < n1 := by have := Int.emod_lt_of_pos ((x : Int) - (s : Int) * (y : Int)) (show 0 < (n1 : Int) by omega); omega
            have hF : twF L s x y = L.getD k false := by unfold twF; rw [HN.out, hk, Int.toNat_natCast]
            have hpp : (s : Int) * (y : Int) = ((s * y : Nat) : Int) := (Int.natCast_mul s y).symm
            rw [hpp] at hk
            have HPP := Lib.hid hpp
            clear hpp
            generalize s * y = p at *
            have hf2 := hfill.set (W := H) hlt hltx (Pl.cell_lt hltx hlt) (fun y' x' hy' hx' e => (Pl.cell_inj hltx hx' e).symm) rfl
            have HF := Lib.hid hf2
            have HFk := Lib.hid hF
            have hcell := row_cell hrow hk1 hF
            have HMk := Lib.hid (fun X W (h : X = (x : Int) - (p : Int)) => mod9_to X n1 k W (by omega) (by omega) (by rw [h]; exact hk))
            clear hf2 hfill hF hk
            go_wp2_with fail
            go_region_held3 (fun w' => (w'.cell? ⟨w3.heap.size, 0, none⟩ = some (.int .i64 n1) ∧ w'.cell? ⟨w3.heap.size, 1, none⟩ = some (.int .i64 H) ∧ w'.cell? ⟨w3.heap.size, 2, none⟩ = some (.slice (some ⟨g3, 0, none⟩) (H * n1) c3)) ∧ w'.cell? ⟨g1, k, none⟩ = some (.bool (twF L s x y)))
              (first | exact ⟨hG.cell3, hcell⟩ | exact ⟨hG5.cell3, hcell5⟩ | go_keep)
              (first
                | (go_at_call 31
                   refine (HMk.out _ _ (by rw [HPP.out, i64_same (z := (p : Int)) (by omega) (by omega), i64_same (z := (x : Int) - (p : Int)) (by omega) (by omega)])).mono ?_
                   rintro e w4 ⟨rfl, h4⟩
                   have h5 := h4.symm
                   subst h5)
                | (go_at_call 46
                   refine (set_any n1 H x y w.heap.size g3 c3 l H (twF L s x y) _ hn64 (by omega) hltx hlt hown.drew).mono ?_
                   rintro e w5 ⟨rfl, hown5, hgr5⟩
                   have hG5 := hG.drew.grown hgr5 (own_blk_ne hown.drew hG.drew (by decide))
                   have hrow5 := hrow.drew.grown2 hgr5 (rd_ne hg13)
                   have hcell5 := row_cell hrow5 hk1 HFk.out)
                | fail)
            have hR5 := hR.drew.grown hgr5 (own_blk_ne hown.drew hR.drew (by decide))
            have hbel5 := hbel.drew.grown hgr5 hbel.size (fun q hq => (hown.lt q hq).1)
            go_wp2_with fail
            go_roundw
            case rel => exact ⟨x + 1, _, by omega, by go_num, HF.out, hG5, hR5, hrow5, hown5, hbel5⟩
            case measure => simp [intOf]; omega
          · obtain hxe : x = n1 := by omega
            rw [hxe] at hfill
            go_wp2_with fail
            go_roundw
            case rel => exact ⟨y + 1, l, by omega, by go_num, hfill.col, hG, hR, hrow, hown, hbel⟩
            case measure => simp [intOf]; omega
      · obtain hye : y = H := by omega
        rw [hye] at hfill
        obtain ⟨r0, r1, r2⟩ := hR.cell3
        obtain ⟨f0, f1, f2⟩ := hR.frozen3
        obtain ⟨q0, q1, q2⟩ := (hR.set3 (.int .i64 n1) (.int .i64 H) (.slice (some ⟨g3, 0, none⟩) (H * n1) c3)).cell3
        go_wp2_with fail
        refine bodyPost_ret (v := .tuple #[.agg #[.int .i64 n1, .int .i64 H, .slice (some ⟨g3, 0, none⟩) (H * n1) c3], .int .i64 0]) (by simp [results, Try.results21, go_sem, q0, q1, q2]) rfl ?_
        have hO := own_set3 hown hR (by decide) (.int .i64 n1) (.int .i64 H) (.slice (some ⟨g3, 0, none⟩) (H * n1) c3)
        have e : l = Pl.tab n1 H (twF L s) := Pl.tab_ext hfill.len fun x y hx hy => hfill.get y x hx (.inl hy)
        rw [e] at hO
        exact ⟨_, _, c3, rfl, hO, below_set3 hbel (Nat.le_refl _) _ _ _⟩
end Go.Proofs.Ytbgekiifffnalaa
