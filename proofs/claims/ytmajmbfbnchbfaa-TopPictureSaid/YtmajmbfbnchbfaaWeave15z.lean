/- picture.Weave: the grid that shows an image and is like another one. -/
import Derived.Test.YtmajmbfbnchbfaaCells15z
import Derived.Test.YtmajmbfbnchbfaaMg16z
import Derived.BigRegion
namespace Go.Proofs.Ytmajmbfbnchbfaa
open Go.RowKit

def weaveJ (a : Nat) (cs p q : List Int) (bs : List Bool) (j : Nat) : Bool := upJ a cs q j || openJ a cs p q j && bs.getD j false
theorem weave_range {a b : Nat} {cs p q : List Int} {bs : List Bool} : (List.range (b * a)).map (weaveJ a cs p q bs) = Pl.tab a b (weaveF a cs p q bs) := range_tab fun x y hx _ => by unfold weaveJ weaveF upJ upF openJ openF; rw [div_at hx, mod_at hx]
/-- The first k cells are woven, the rest are forced up or not. -/
def wovenL (n : Nat) (W U : Nat → Bool) (k : Nat) : List Bool := (List.range n).map fun j => if j < k then W j else U j
theorem wovenL_zero (n : Nat) (W U : Nat → Bool) : wovenL n W U 0 = (List.range n).map U := by unfold wovenL; simp
theorem wovenL_all (n : Nat) (W U : Nat → Bool) : wovenL n W U n = (List.range n).map W := by
  unfold wovenL
  exact List.map_congr_left fun j hj => by rw [if_pos (by simpa using hj)]
theorem wovenL_get {n k : Nat} {W U : Nat → Bool} (h : k < n) : (wovenL n W U k).getD k false = U k := by unfold wovenL; simp [List.getD, h]
theorem wovenL_set {n k : Nat} {W U : Nat → Bool} {v : Bool} (h : W k = v) : (wovenL n W U k).set k v = wovenL n W U (k + 1) := by
  subst h
  refine List.ext_getElem? fun j => ?_
  rw [List.getElem?_set]
  unfold wovenL
  simp only [List.getElem?_map, List.length_map, List.length_range]
  by_cases hj : k = j
  · subst hj
    by_cases hk : k < n
    · simp [hk]
    · simp [hk]
  · rw [if_neg hj]
    by_cases hn : j < n
    · simp only [List.getElem?_range hn, Option.map_some]
      by_cases h1 : j < k
      · rw [if_pos h1, if_pos (by omega)]
      · rw [if_neg h1, if_neg (by omega)]
    · rw [List.getElem?_eq_none (by simp; omega)]; rfl
theorem weaveI_bad {m : Im} {p q : List Int} {g : Gd} (h : thrI m p q ≠ 0) : weaveI m p q g = (Gd.zero, thrI m p q) := if_pos h
theorem weaveI_like {m : Im} {p q : List Int} {g : Gd} (h : thrI m p q = 0) (h2 : likeG g m ≠ 0) : weaveI m p q g = (Gd.zero, likeG g m) := by unfold weaveI; rw [if_neg (by omega), if_pos h2]
theorem weaveI_none {a b : Nat} {cs p q : List Int} {g : Gd} (h : thrI ⟨a, b, cs⟩ p q = 0) (h2 : likeG g ⟨a, b, cs⟩ = 0) (hf : fitB a b cs p q = false) : weaveI ⟨a, b, cs⟩ p q g = (Gd.zero, 6) := by
  unfold weaveI
  rw [if_neg (by omega), if_neg (by omega)]
  simp only [Int.toNat_natCast]
  rw [if_neg (by rw [hf]; simp)]
theorem weaveI_ok {a b : Nat} {cs p q : List Int} {g : Gd} (h : thrI ⟨a, b, cs⟩ p q = 0) (h2 : likeG g ⟨a, b, cs⟩ = 0) (hf : fitB a b cs p q = true) : weaveI ⟨a, b, cs⟩ p q g = (⟨a, b, (List.range (b * a)).map (weaveJ a cs p q g.bits)⟩, 0) := by
  unfold weaveI
  rw [if_neg (by omega), if_neg (by omega)]
  simp only [Int.toNat_natCast]
  rw [if_pos hf, weave_range]

set_option maxHeartbeats 4000000 in
theorem weave_any (m : Im) (p q : List Int) (g : Gd) (A Ap Aq B : Option Addr) (n c np cp nq cq k d : Nat) (w : World) (hr : Rd w A n (m.c.map (Value.int .i64))) (hn : n ≤ 1048576) (hrp : Rd w Ap np (p.map (Value.int .i64))) (hrq : Rd w Aq nq (q.map (Value.int .i64))) (hg : Rd w B k (g.bits.map Value.bool)) :
    Calls Try.prog 11 #[.agg #[.int .i64 m.w, .int .i64 m.h, .slice A n c], .slice Ap np cp, .slice Aq nq cq, .agg #[.int .i64 g.w, .int .i64 g.h, .slice B k d]] w (RetG (weaveI m p q g) w) := by
  have hkl : g.bits.length = k := by simpa using hg.len
  have hlm : m.c.length = n := by simpa using hr.len
  have HT := Lib.hid (fun WW h1 h2 h3 => thrI_any m p q A Ap Aq n c np cp nq cq WW h1 hn h2 h3)
  have HL := Lib.hid (fun WW => like_any g m B A k d n c WW hkl)
  have HC := Lib.hid (fun WW h1 h2 h3 => cells_any m p q A Ap Aq n c np cp nq cq WW h1 hn h2 h3)
  have S0 := ((((((St.start w).addRd hr).addRd hrp).addRd hrq).addRd hg).box #[.int .i64 m.w, .int .i64 m.h, .slice A n c] 36).box #[.int .i64 g.w, .int .i64 g.h, .slice B k d] 25
  have S0 := S0.box #[.int .i64 0, .int .i64 0, .slice none 0 0] 25
  simp only [size_alloc1, List.nil_append, List.cons_append] at S0
  obtain ⟨c0, c1, c2⟩ := (S0.blk 4 rfl).cell3
  have hgl := hg.lt
  clear hr hrp hrq hg
  by_cases h0 : thrI m p q = 0
  · by_cases h1 : likeG g m = 0
    · obtain ⟨a, b, cs, rfl, ha1, ha, hb1, hb, hl, hpa, hqb, _, _, _⟩ := thrI_open h0
      rw [h0] at HT
      rw [h1] at HL
      obtain ⟨hgc, hgw, hgh⟩ := likeG_zero h1
      simp only at hlm S0 c0 c1 c2 HT hgw hgh HL
      have hkk : k = n := by
        obtain ⟨a', b', e1, e2, _, _, _, _, e3⟩ := chk_zero hgc
        have e4 : a' = a := by omega
        have e5 : b' = b := by omega
        subst e4 e5
        omega
      subst hkk
      have hnn : b * a = k := by omega
      cases hf : fitB a b cs p q with
      | false =>
        have HH := Lib.hid (weaveI_none h0 h1 hf)
        rw [cellsI_none h0 hf] at HC
        clear h0 h1 hf hgc hgw hgh hnn
        go_enter Try.func11, Try.ntmps11
        go_wp2_with fail
        refine (HT.out _ (S0.rd 0 rfl) (S0.rd 1 rfl) (S0.rd 2 rfl)).mono ?_
        rintro e w1 ⟨rfl, hb1⟩
        have S := S0.keep hb1
        clear S0 c0 c1 c2
        obtain ⟨c0, c1, c2⟩ := (S.blk 4 rfl).cell3
        obtain ⟨d0, d1, d2⟩ := (S.blk 5 rfl).cell3
        go_wp2_with fail
        refine (HL.out _).mono ?_
        rintro e w2 ⟨rfl, hb2⟩
        have S := S.keep hb2
        clear c0 c1 c2 d0 d1 d2
        obtain ⟨c0, c1, c2⟩ := (S.blk 4 rfl).cell3
        go_wp2_with fail
        refine (HC.out _ (S.rd 0 rfl) (S.rd 1 rfl) (S.rd 2 rfl)).mono ?_
        rintro e w3 ⟨A1, n1, c1', A2, n2, c2', rfl, hown1, hown2, hne, hb3⟩
        simp only at hown1 hown2 ⊢
        have hsz3 := S.size
        have hl6 := (S.blk 6 rfl).lt
        have S := (((S.keep hb3).addRd (rd_of_own hown2)).box #[.int .i64 Gd.zero.w, .int .i64 Gd.zero.h, .slice A1 n1 c1'] 25).box #[.int .i64 Gd.zero.w, .int .i64 Gd.zero.h, .slice A2 n2 c2'] 25
        simp only [size_alloc1, List.nil_append, List.cons_append] at S
        clear c0 c1 c2
        obtain ⟨r0, r1, r2⟩ := (S.blk 6 rfl).cell3
        obtain ⟨f0, f1, f2⟩ := (S.blk 6 rfl).frozen3
        obtain ⟨q0, q1, q2⟩ := ((S.blk 6 rfl).set3 (.int .i64 0) (.int .i64 0) (.slice none 0 0)).cell3
        have BB := below_set3 S.below (show w.heap.size ≤ w.heap.size + 1 + 1 by omega) (.int .i64 0) (.int .i64 0) (.slice none 0 0)
        go_wp2_with fail
        refine bodyPost_ret (v := .tuple #[.agg #[.int .i64 0, .int .i64 0, .slice none 0 0], .int .i64 6]) (by simp [results, Try.results11, go_sem, q0, q1, q2]) rfl ?_
        exact bad_ret HH.out BB
      | true =>
        have HH := Lib.hid (weaveI_ok h0 h1 hf)
        rw [cellsI_ok h0 hf] at HC
        rw [hnn] at HC HH
        simp only at HC
        have hk1 : 1 ≤ k := by rw [← hnn]; exact Nat.mul_pos hb1 ha1
        have HKM := Lib.hid (show k ≤ 4096 by rw [← hnn]; exact Nat.mul_le_mul hb ha)
        clear h0 h1 hf hgc hgw hgh hnn hlm
        have HWJ := Lib.hid (show ∀ j, weaveJ a cs p q g.bits j = (upJ a cs q j || openJ a cs p q j && g.bits.getD j false) from fun _ => rfl)
        generalize hU : upJ a cs q = U at *
        generalize hO : openJ a cs p q = O at *
        generalize hW : weaveJ a cs p q g.bits = W at *
        clear hU hO hW
        have HKL := Lib.hid hkl
        clear hkl
        go_enter Try.func11, Try.ntmps11
        go_wp2_with fail
        refine (HT.out _ (S0.rd 0 rfl) (S0.rd 1 rfl) (S0.rd 2 rfl)).mono ?_
        rintro e w1 ⟨rfl, hb1⟩
        have S := S0.keep hb1
        clear S0 c0 c1 c2
        obtain ⟨c0, c1, c2⟩ := (S.blk 4 rfl).cell3
        obtain ⟨d0, d1, d2⟩ := (S.blk 5 rfl).cell3
        go_wp2_with fail
        refine (HL.out _).mono ?_
        rintro e w2 ⟨rfl, hb2⟩
        have S := S.keep hb2
        clear c0 c1 c2 d0 d1 d2
        obtain ⟨c0, c1, c2⟩ := (S.blk 4 rfl).cell3
        go_wp2_with fail
        refine (HC.out _ (S.rd 0 rfl) (S.rd 1 rfl) (S.rd 2 rfl)).mono ?_
        rintro e w3 ⟨A1, n1, c1', A2, n2, c2', rfl, hown1, hown2, hne, hb3⟩
        simp only at hown1 hown2 ⊢
        have hsz3 := S.size
        have hl6 := (S.blk 6 rfl).lt
        have S := (((S.keep hb3).addRd (rd_of_own hown2)).box #[.int .i64 a, .int .i64 b, .slice A1 n1 c1'] 25).box #[.int .i64 a, .int .i64 b, .slice A2 n2 c2'] 25
        simp only [size_alloc1, List.nil_append, List.cons_append] at S
        clear c0 c1 c2
        have hn1 : n1 = k := by have := hown1.1; simp at this; omega
        have hn2 : n2 = k := by have := hown2.1; simp at this; omega
        subst hn1
        rw [hn2] at S hown2 hne ⊢
        clear hn2
        obtain ⟨g1, rfl, hg1, hg2, _⟩ := own_form hown1 hk1
        have hownA := ((own_base hown1 hsz3).alloc (.cells #[.int .i64 a, .int .i64 b, .slice (some ⟨g1, 0, none⟩) n1 c1'] 25)).alloc (.cells #[.int .i64 a, .int .i64 b, .slice A2 n1 c2'] 25)
        obtain ⟨g2, rfl, hg3, hg4, _⟩ := own_form hown2 hk1
        have hne2 : g2 ≠ g1 := by
          rcases hne with e | e | e
          · simp [Value.ownBlock] at e
          · simp [Value.ownBlock] at e
          · simp [Value.ownBlock] at e; omega
        clear hown1 hown2 hne
        have hl6' := hl6
        obtain ⟨ws, hws⟩ : ∃ q, q = (w3.alloc (.cells #[.int .i64 a, .int .i64 b, .slice (some ⟨g1, 0, none⟩) n1 c1'] 25)).alloc (.cells #[.int .i64 a, .int .i64 b, .slice (some ⟨g2, 0, none⟩) n1 c2'] 25) := ⟨_, rfl⟩
        rw [← hws] at S hownA
        obtain ⟨c0, c1, c2⟩ := (S.blk 8 rfl).cell3
        go_wp2_with fail
        rw [← hws]
        clear hws
        go_loopw [46] (fun i wr => ∃ x : Nat, x ≤ n1 ∧ i = .int .i64 x ∧ wr.ownsRow w.heap.size 4 1 (.slice (some ⟨g1, 0, none⟩) n1 c1') n1 ((wovenL n1 W U x).map Value.bool) ∧ Only [g1] ws wr) (fun i _ => n1 - (intOf i).toNat)
        case atStart => exact ⟨0, Nat.zero_le _, rfl, by rw [wovenL_zero]; exact hownA, Only.refl _ _⟩
        case round =>
          clear hownA c0 c1 c2
          obtain ⟨x, hx, rfl, hown, hon⟩ := hrel
          have nm : ∀ r, r ≠ g1 → r ∉ [g1] := fun r h => by simpa using h
          have hn4 := HKM.out
          obtain ⟨c0, c1, c2⟩ := ((S.blk 8 rfl).only hon (nm _ (by omega))).cell3
          by_cases hlt : x < n1
          · obtain ⟨d0, d1, d2⟩ := ((S.blk 9 rfl).only hon (nm _ (by omega))).cell3
            obtain ⟨e0, e1, e2⟩ := ((S.blk 5 rfl).only hon (nm _ (by omega))).cell3
            obtain ⟨bo, oo, hAo, _, hco⟩ := ((S.rd 7 rfl).only hon (fun b o h _ => by injection h with h; injection h with h; subst h; exact nm _ hne2)).at_ (by omega)
            obtain ⟨ba, oa, hAa, _, hca⟩ := ((S.rd 3 rfl).only hon (fun b o h h' => by have := hgl b o h h'; exact nm _ (by omega))).at_ (by omega)
            injection hAo with hAo
            injection hAo with hAo1 hAo2
            subst hAo1 hAo2
            have k0 : wr.cell? ⟨g1, x, none⟩ = some (.bool (U x)) := by
              have h := hown.cellAt x (by omega)
              rw [h, List.getElem?_map]
              have h3 := wovenL_get (W := W) (U := U) hlt
              have h4 : x < (wovenL n1 W U x).length := by simp [wovenL, hlt]
              rw [List.getD_eq_getElem?_getD, List.getElem?_eq_getElem h4] at h3
              rw [List.getElem?_eq_getElem h4]
              simpa using h3
            have k1 := hco x (.bool (O x)) (by simp [hlt])
            rw [Nat.zero_add] at k1
            have k2 := hca x (.bool (g.bits.getD x false)) (by
              have := HKL.out
              rw [List.getElem?_map, List.getElem?_eq_getElem (by omega)]
              simp [List.getD, show x < g.bits.length by omega])
            have HWx := Lib.hid (HWJ.out x)
            have hfr := hown.frozenAt x
            have hst := fun v => hown.stored x (.bool v)
            have HST := Lib.hid (fun v (h : W x = v) => (by have h5 := (hst v).1; rw [← List.map_set, wovenL_set h] at h5; exact h5 : (wr.setCell ⟨g1, x, none⟩ (.bool v)).ownsRow w.heap.size 4 1 (.slice (some ⟨g1, 0, none⟩) n1 c1') n1 ((wovenL n1 W U (x + 1)).map Value.bool)))
            have HON := Lib.hid (fun v : Value => hon.set (p := ⟨g1, x, none⟩) (by simp) v)
            subst hAa
            clear hst hco hca hown hon
            generalize g.bits.getD x false = s at *
            generalize U x = u at *
            generalize O x = o2 at *
            cases u with
            | true =>
              have HV : Hid (W x = true) := Lib.hid (by rw [HWx.out]; rfl)
              clear HWx
              go_wp2_with fail
              go_region
              all_goals
                go_wp2_with fail
                go_roundw
                case rel => exact ⟨x + 1, by omega, by go_num, HST.out _ HV.out, (HON.out _).drew⟩
                case measure => simp [intOf]; omega
            | false =>
              cases o2 with
              | false =>
                have HV : Hid (W x = false) := Lib.hid (by rw [HWx.out]; rfl)
                clear HWx
                go_wp2_with fail
                go_region
                all_goals
                  go_wp2_with fail
                  go_roundw
                  case rel => exact ⟨x + 1, by omega, by go_num, HST.out _ HV.out, (HON.out _).drew⟩
                  case measure => simp [intOf]; omega
              | true =>
                have HV : Hid (W x = s) := Lib.hid (by rw [HWx.out]; simp)
                clear HWx
                go_wp2_with fail
                go_region
                all_goals
                  go_wp2_with fail
                  go_roundw
                  case rel => exact ⟨x + 1, by omega, by go_num, HST.out _ HV.out, (HON.out _).drew⟩
                  case measure => simp [intOf]; omega
          · have hxn : x = n1 := by omega
            have HXN := Lib.hid hxn
            have hB := S.below.trans (hon.below (B := w.heap.size) (fun r hr => by simp at hr; omega) S.size)
            have hR := (S.blk 6 rfl).only hon (nm _ (by omega))
            obtain ⟨r0, r1, r2⟩ := hR.cell3
            obtain ⟨f0, f1, f2⟩ := hR.frozen3
            obtain ⟨q0, q1, q2⟩ := (hR.set3 (.int .i64 a) (.int .i64 b) (.slice (some ⟨g1, 0, none⟩) n1 c1')).cell3
            have O1 := own_set3 hown hR (by decide) (.int .i64 a) (.int .i64 b) (.slice (some ⟨g1, 0, none⟩) n1 c1')
            have BB := below_set3 hB (show w.heap.size ≤ w.heap.size + 1 + 1 by omega) (.int .i64 a) (.int .i64 b) (.slice (some ⟨g1, 0, none⟩) n1 c1')
            clear hxn hon hown hR
            go_wp2_with fail
            refine bodyPost_ret (v := .tuple #[.agg #[.int .i64 a, .int .i64 b, .slice (some ⟨g1, 0, none⟩) n1 c1'], .int .i64 0]) (by simp [results, Try.results11, go_sem, q0, q1, q2]) rfl ?_
            rw [HXN.out, wovenL_all] at O1
            rw [HH.out]
            exact ⟨_, n1, c1', rfl, O1, BB⟩
    · have HH := Lib.hid (weaveI_like h0 h1)
      rw [h0] at HT
      have k1 : (likeG g m != 0) = true := by simpa using h1
      generalize likeG g m = li at *
      clear h0 h1
      go_enter Try.func11, Try.ntmps11
      go_wp2_with fail
      refine (HT.out _ (S0.rd 0 rfl) (S0.rd 1 rfl) (S0.rd 2 rfl)).mono ?_
      rintro e w1 ⟨rfl, hb1⟩
      have S := S0.keep hb1
      clear S0 c0 c1 c2
      obtain ⟨c0, c1, c2⟩ := (S.blk 4 rfl).cell3
      obtain ⟨d0, d1, d2⟩ := (S.blk 5 rfl).cell3
      go_wp2_with fail
      refine (HL.out _).mono ?_
      rintro e w2 ⟨rfl, hb2⟩
      have S := S.keep hb2
      clear c0 c1 c2 d0 d1 d2
      obtain ⟨c0, c1, c2⟩ := (S.blk 4 rfl).cell3
      obtain ⟨r0, r1, r2⟩ := (S.blk 6 rfl).cell3
      obtain ⟨f0, f1, f2⟩ := (S.blk 6 rfl).frozen3
      obtain ⟨q0, q1, q2⟩ := ((S.blk 6 rfl).set3 (.int .i64 0) (.int .i64 0) (.slice none 0 0)).cell3
      have BB := below_set3 S.below (show w.heap.size ≤ w.heap.size + 1 + 1 by omega) (.int .i64 0) (.int .i64 0) (.slice none 0 0)
      go_wp2_with fail
      refine bodyPost_ret (v := .tuple #[.agg #[.int .i64 0, .int .i64 0, .slice none 0 0], .int .i64 li]) (by simp [results, Try.results11, go_sem, q0, q1, q2]) rfl ?_
      exact bad_ret HH.out BB
  · have HH := Lib.hid (weaveI_bad (g := g) h0)
    have k0 : (thrI m p q != 0) = true := by simpa using h0
    generalize thrI m p q = ti at *
    clear h0
    go_enter Try.func11, Try.ntmps11
    go_wp2_with fail
    refine (HT.out _ (S0.rd 0 rfl) (S0.rd 1 rfl) (S0.rd 2 rfl)).mono ?_
    rintro e w1 ⟨rfl, hb1⟩
    have S := S0.keep hb1
    clear S0 c0 c1 c2
    obtain ⟨c0, c1, c2⟩ := (S.blk 4 rfl).cell3
    obtain ⟨d0, d1, d2⟩ := (S.blk 5 rfl).cell3
    obtain ⟨r0, r1, r2⟩ := (S.blk 6 rfl).cell3
    obtain ⟨f0, f1, f2⟩ := (S.blk 6 rfl).frozen3
    obtain ⟨q0, q1, q2⟩ := ((S.blk 6 rfl).set3 (.int .i64 0) (.int .i64 0) (.slice none 0 0)).cell3
    have BB := below_set3 S.below (show w.heap.size ≤ w.heap.size + 1 + 1 by omega) (.int .i64 0) (.int .i64 0) (.slice none 0 0)
    go_wp2_with fail
    refine bodyPost_ret (v := .tuple #[.agg #[.int .i64 0, .int .i64 0, .slice none 0 0], .int .i64 ti]) (by simp [results, Try.results11, go_sem, q0, q1, q2]) rfl ?_
    exact bad_ret HH.out BB
end Go.Proofs.Ytmajmbfbnchbfaa
