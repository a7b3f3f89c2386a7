/- The law SatinKnown, walked: it answers true and turns nothing that was there, for any numbers. -/
import Derived.Test.YtbgekiifffnalaaAlive9
import Derived.Test.YtbgekiifffnalaaSatR
import Derived.Test.YtbgekiifffnalaaSat9
import Derived.Test.YtbgekiifffnalaaShift
import Derived.Test.YtbgekiifffnalaaNot
namespace Go.Proofs.Ytbgekiifffnalaa
open Go.RowKit

theorem cell_of {w : World} {g n k : Nat} {b : Bool} {L : List Bool} (h : Rd w (some ⟨g, 0, none⟩) n (L.map Value.bool)) (hk : k < n) (hF : b = L.getD k false) : w.cell? ⟨g, k, none⟩ = some (.bool b) := by
  have hl : L.length = n := by simpa using h.len
  have := h.lit k (.bool b) (by rw [List.getElem?_map, List.getElem?_eq_getElem (by omega), hF, List.getD_eq_getElem?_getD, List.getElem?_eq_getElem (by omega)]; rfl)
  simpa using this

set_option maxHeartbeats 4000000 in
set_option maxRecDepth 100000 in
theorem known9_main (n m : Nat) (dx dy : Int) (b : Bool) (w : World) (hmv : moveB (n : Int) (m : Int) = true) (h20 : n ≤ 20) (hx1 : -1000000000 ≤ dx) (hx2 : dx ≤ 1000000000) (hy1 : -1000000000 ≤ dy) (hy2 : dy ≤ 1000000000) :
    Calls Try.prog 9 #[.int .i64 n, .int .i64 m, .int .i64 dx, .int .i64 dy, .bool b] w fun e w' => e = .returned (.bool true) ∧ Below w.heap.size w w' := by
  have hmv' := hmv
  unfold moveB at hmv'
  simp only [Bool.and_eq_true, decide_eq_true_eq] at hmv'
  obtain ⟨⟨hn5, _, hm2, hmn⟩, _⟩ := hmv'
  obtain ⟨k1, k2, k3, _, _, _⟩ := inv_spec h20 hmv
  generalize invK n m = K at *
  have HS1 := Lib.hid (fun W => satin_any (n : Int) (m : Int) W)
  rw [satinMG_yes hmv] at HS1
  have HMv := Lib.hid (fun W => rmove_any (n : Int) (m : Int) W)
  rw [hmv] at HMv
  have HSh := Lib.hid (fun A n' c' W h => shift_any ⟨n, n, satinL n m n⟩ dx dy A n' c' W h)
  rw [sat_shift (by omega) (by omega)] at HSh
  have l1 := satinL_length n m n
  have ls := shiL_length n m dx dy
  have HNo := Lib.hid (fun A n' c' W h => not_any ⟨n, n, shiL n m dx dy⟩ A n' c' W h)
  rw [notG_ok (chk_square (by omega) (by omega) ls)] at HNo
  have hs1 := isSat_shift (m := m) (dx := dx) (dy := dy) (show 1 ≤ n by omega)
  have hs2 := isSat_not (by omega) ls hs1
  have ln : ((shiL n m dx dy).map fun b => !b).length = n * n := by simpa using ls
  obtain ⟨i1, i2⟩ := isSat_is hmv hs1 ls
  obtain ⟨i3, i4⟩ := isSat_is hmv hs2 ln
  have HI1 := Lib.hid (fun A n' c' W h hc => sat_any ⟨n, n, shiL n m dx dy⟩ A n' c' W h hc)
  have HI2 := Lib.hid (fun A n' c' W h hc => sat_any ⟨n, n, (shiL n m dx dy).map fun b => !b⟩ A n' c' W h hc)
  have HM1 := Lib.hid (fun A n' c' W h hc => moves_any ⟨n, n, shiL n m dx dy⟩ A n' c' W h hc)
  have HM2 := Lib.hid (fun A n' c' W h hc => moves_any ⟨n, n, (shiL n m dx dy).map fun b => !b⟩ A n' c' W h hc)
  unfold SatRet at HI1 HI2
  rw [i1] at HI1
  rw [i3] at HI2
  rw [i2] at HM1
  rw [i4] at HM2
  have HE := Lib.hid (fun i j (hi : i < n) (hj : j < n) => sat_end (m := m) (k := K) (by rw [Nat.mod_eq_of_lt (a := 1) (by omega)]; exact k3) hi hj)
  have HP := Lib.hid (fun i j (hi : i < n) (hj : j < n) => sat_cell (m := m) (x := j) (y := i) hj hi)
  have hck : (chk (n : Int) (n : Int) (n * n) != 0) = false := by
    have h := chk_square (n := n) (by omega) (by omega) l1
    unfold chkG at h
    simp only at h
    rw [l1] at h
    rw [h]
    rfl
  have hN : n * n ≤ 400 := Nat.le_trans (Nat.mul_le_mul h20 h20) (by decide)
  have hN1 : 1 ≤ n * n := Nat.mul_pos (by omega) (by omega)
  have HIX := Lib.hid (fun i j (hi : i < n) (hj : j < n) => (Pl.cell_lt hj hi : i * n + j < n * n))
  clear i1 i2 i3 i4 hs1 hs2
  generalize (shiL n m dx dy).map (fun b => !b) = T2 at *
  generalize shiL n m dx dy = T1 at *
  generalize satinL n m n = L1 at *
  generalize n * n = N at *
  simp only at HS1 HSh HNo HI1 HI2 HM1 HM2
  clear hmv
  have S0 := St.start w
  go_enter Try.func9, Try.ntmps9
  go_wp2_with fail
  refine (HS1.out _).mono ?_
  rintro e w1 ⟨A1, n1, cc1, rfl, hown1, hb1⟩
  simp only at hown1 ⊢
  obtain rfl : n1 = N := by have := hown1.1; simp at this; omega
  have hcc1 := own_le hown1
  obtain ⟨g1, rfl, hg1, hg1l, _⟩ := own_form hown1 (by omega)
  have S1 := ((S0.keep hb1).addRd (rd_of_own hown1)).box #[.int .i64 n, .int .i64 n, .slice (some ⟨g1, 0, none⟩) n1 cc1] 24
  simp only [List.nil_append, List.cons_append] at S1
  clear S0 hown1
  go_wp2_with fail
  refine (HMv.out _).mono ?_
  rintro e w2 ⟨rfl, hb2⟩
  have S2 := S1.keep hb2
  clear S1
  obtain ⟨d0, d1, d2⟩ := (S2.blk 1 rfl).cell3
  go_wp2_with fail
  refine (rcheck_any _ _ _ _ _ _).mono ?_
  rintro e w3 ⟨rfl, hb3⟩
  have S3 := S2.keep hb3
  clear S2 d0 d1 d2
  go_wp2_with fail
  have HS := Lib.hid S3
  clear S3
  go_loopw [13] (fun i wr => ∃ k : Nat, k ≤ n ∧ i = .int .i64 k ∧ Below w3.heap.size w3 wr) (fun i _ => n - (intOf i).toNat)
  case atStart => exact ⟨0, Nat.zero_le _, rfl, Below.refl _ _⟩
  case round =>
    obtain ⟨i, hi, rfl, hB⟩ := hrel
    by_cases hlt : i < n
    · obtain ⟨p, hp⟩ : ∃ p, p = K * i % n := ⟨_, rfl⟩
      obtain ⟨q, hq⟩ : ∃ q, q = m * i % n := ⟨_, rfl⟩
      have HEi := Lib.hid (fun j (hj : j < n) => HE.out i j hlt hj)
      have HPi := Lib.hid (fun j (hj : j < n) => HP.out i j hlt hj)
      have HIXi := Lib.hid (fun j (hj : j < n) => HIX.out i j hlt hj)
      have HIXj := Lib.hid (fun j (hj : j < n) => HIX.out j i hj hlt)
      rw [← hp] at HEi
      rw [← hq] at HPi
      have hpn : p < n := by rw [hp]; exact Nat.mod_lt _ (by omega)
      have hqn : q < n := by rw [hq]; exact Nat.mod_lt _ (by omega)
      clear hp hq
      go_wp2_with fail
      go_loopw [16, 14, 15] (fun j u v wr => ∃ x : Nat, x ≤ n ∧ j = .int .i64 x ∧ u = .int .i64 (one1 p x : Nat) ∧ v = .int .i64 (one1 q x : Nat) ∧ Below w3.heap.size w3 wr) (fun j _ _ _ => n - (intOf j).toNat)
      case atStart => exact ⟨0, Nat.zero_le _, rfl, by rw [one1_zero]; rfl, by rw [one1_zero]; rfl, hB⟩
      case round =>
        clear hB
        obtain ⟨x, hx, rfl, rfl, rfl, hB⟩ := hrel
        by_cases hlx : x < n
        · have S := HS.out.keep hB
          obtain ⟨d0, d1, d2⟩ := (S.blk 1 rfl).cell3
          have h1 := HEi.out x hlx
          have h2 := HPi.out x hlx
          have h3 := HIXi.out x hlx
          have h4 := HIXj.out x hlx
          have g1' := cell_of (S.rd 0 rfl) (k := x * n + i) h4 h1.symm
          have g2' := cell_of (S.rd 0 rfl) (k := i * n + x) h3 h2.symm
          have HU := Lib.hid (one1_succ p x)
          have HV := Lib.hid (one1_succ q x)
          have hu := one1_le p x
          have hv := one1_le q x
          generalize one1 p x = u at *
          generalize one1 q x = v at *
          have e1 : (x : Int) * (n : Int) = ((x * n : Nat) : Int) := (Int.natCast_mul x n).symm
          have e2 : (i : Int) * (n : Int) = ((i * n : Nat) : Int) := (Int.natCast_mul i n).symm
          generalize x * n = xn at *
          generalize i * n = iN at *
          clear h1 h2
          have hb1' : ∃ b1 : Bool, decide (x = p) = b1 ∧ (b1 = true ↔ x = p) := ⟨_, rfl, by simp⟩
          have hb2' : ∃ b2 : Bool, decide (x = q) = b2 ∧ (b2 = true ↔ x = q) := ⟨_, rfl, by simp⟩
          obtain ⟨b1, hd1, he1⟩ := hb1'
          obtain ⟨b2, hd2, he2⟩ := hb2'
          rw [hd1] at g1'
          rw [hd2] at g2'
          have HU' : Hid (one1 p (x + 1) = u + (if b1 then 1 else 0)) := Lib.hid (by rw [HU.out]; simp only [he1])
          have HV' : Hid (one1 q (x + 1) = v + (if b2 then 1 else 0)) := Lib.hid (by rw [HV.out]; simp only [he2])
          clear hd1 hd2 he1 he2 HU HV
          cases b1 <;> cases b2
          all_goals
            go_wp2_with fail
            go_roundw
            case rel => exact ⟨x + 1, by omega, by go_num, by rw [HU'.out]; first | rfl | go_num, by rw [HV'.out]; first | rfl | go_num, hB⟩
            case measure => simp [intOf]; omega
        · have hxn : x = n := by omega
          have o1 : ((one1 p x : Nat) : Int) = 1 := by rw [hxn, one1_end hpn]; rfl
          have o2 : ((one1 q x : Nat) : Int) = 1 := by rw [hxn, one1_end hqn]; rfl
          rw [o1, o2]
          clear o1 o2 hxn
          go_wp2_with fail
          go_roundw
          case rel => exact ⟨i + 1, by omega, by go_num, hB⟩
          case measure => simp [intOf]; omega
    · have S := HS.out.keep hB
      obtain ⟨d0, d1, d2⟩ := (S.blk 1 rfl).cell3
      go_wp2_with fail
      refine (HSh.out _ _ _ _ (S.rd 0 rfl)).mono ?_
      rintro e w4 ⟨A4, n4, cc4, rfl, hown4, hb4⟩
      simp only at hown4 ⊢
      obtain rfl : n4 = n1 := by have := hown4.1; simp at this; omega
      have hcc4 := own_le hown4
      have hsz4 := (S.keep hb4).size
      have S4 := ((S.keep hb4).addRd (rd_of_own hown4)).box #[.int .i64 n, .int .i64 n, .slice A4 n4 cc4] 24
      simp only [List.nil_append, List.cons_append] at S4
      clear S d0 d1 d2
      obtain ⟨d0, d1, d2⟩ := (S4.blk 3 rfl).cell3
      cases b with
      | false =>
        go_wp2_with fail
        refine (HI1.out _ _ _ _ (S4.rd 2 rfl) hcc4).mono ?_
        rintro e w5 ⟨rfl, hb5⟩
        have S5 := S4.keep hb5
        clear S4 d0 d1 d2
        obtain ⟨d0, d1, d2⟩ := (S5.blk 3 rfl).cell3
        go_wp2_with fail
        refine (HM1.out _ _ _ _ (S5.rd 2 rfl) hcc4).mono ?_
        rintro e w6 ⟨A6, n6, cc6, rfl, hown6, hb6⟩
        simp only at hown6 ⊢
        obtain rfl : n6 = 1 := by have := hown6.1; simp at this; omega
        have S6 := (S5.keep hb6).addRd (rd_of_own hown6)
        simp only [List.nil_append, List.cons_append] at S6
        clear S5 d0 d1 d2
        have S6b := (S6.box #[.int .i64 m] 3).addRd (n := 1) (xs := ([(m : Int)] : List Int).map (Value.int .i64)) (rd_of_blk (Blk.new _ 3 #[.int .i64 m]))
        simp only [List.nil_append, List.cons_append] at S6b
        go_wp2_with fail
        refine (lsame_any [(m : Int)] _ _ _ _ _ _ _ (S6b.rd 4 rfl) (S6b.rd 6 rfl) (by omega)).mono ?_
        rintro e w7 ⟨rfl, hb7⟩
        have S7 := S6b.keep hb7
        go_wp2_with fail
        refine (alive_any _).mono ?_
        rintro e w8 ⟨rfl, hb8⟩
        have SE := (S7.keep hb8).below
        go_wp2_with fail
        go_ret
        exact ⟨rfl, SE⟩
      | true =>
        go_wp2_with fail
        refine (HNo.out _ _ _ _ (S4.rd 2 rfl)).mono ?_
        rintro e w5 ⟨A5, n5, cc5, rfl, hown5, hb5⟩
        simp only at hown5 ⊢
        obtain rfl : n5 = n4 := by have := hown5.1; simp at this; omega
        have hcc5 := own_le hown5
        have S5 := S4.keep hb5
        clear S4 d0 d1 d2
        have hG := S5.blk 3 rfl
        obtain ⟨d0, d1, d2⟩ := hG.cell3
        obtain ⟨f0, f1, f2⟩ := hG.frozen3
        have hG' := hG.set3 (.int .i64 n) (.int .i64 n) (.slice A5 n5 cc5)
        have hO' := own_set3 hown5 hG (by decide) (.int .i64 n) (.int .i64 n) (.slice A5 n5 cc5)
        have hB' := below_set3 S5.below hsz4 (.int .i64 n) (.int .i64 n) (.slice A5 n5 cc5)
        obtain ⟨q0, q1, q2⟩ := hG'.cell3
        have S6 := ((show St w [] _ from ⟨hB', by simp⟩).addRd (rd_of_own hO')).addBlk hG'
        simp only [List.nil_append, List.cons_append] at S6
        clear hG hG' hO' hB' S5 hown5
        go_wp2_with fail
        refine (HI2.out _ _ _ _ (S6.rd 0 rfl) hcc5).mono ?_
        rintro e w6 ⟨rfl, hb6⟩
        have S7 := S6.keep hb6
        clear S6 d0 d1 d2 f0 f1 f2 q0 q1 q2
        obtain ⟨d0, d1, d2⟩ := (S7.blk 1 rfl).cell3
        go_wp2_with fail
        refine (HM2.out _ _ _ _ (S7.rd 0 rfl) hcc5).mono ?_
        rintro e w7 ⟨A7, n7, cc7, rfl, hown7, hb7⟩
        simp only at hown7 ⊢
        obtain rfl : n7 = 1 := by have := hown7.1; simp at this; omega
        have S8 := (S7.keep hb7).addRd (rd_of_own hown7)
        simp only [List.nil_append, List.cons_append] at S8
        clear S7 d0 d1 d2
        have S8b := (S8.box #[.int .i64 m] 3).addRd (n := 1) (xs := ([(m : Int)] : List Int).map (Value.int .i64)) (rd_of_blk (Blk.new _ 3 #[.int .i64 m]))
        simp only [List.nil_append, List.cons_append] at S8b
        go_wp2_with fail
        refine (lsame_any [(m : Int)] _ _ _ _ _ _ _ (S8b.rd 2 rfl) (S8b.rd 4 rfl) (by omega)).mono ?_
        rintro e w8 ⟨rfl, hb8⟩
        have S9 := S8b.keep hb8
        go_wp2_with fail
        refine (alive_any _).mono ?_
        rintro e w9 ⟨rfl, hb9⟩
        have SE := (S9.keep hb9).below
        go_wp2_with fail
        go_ret
        exact ⟨rfl, SE⟩

set_option maxHeartbeats 1000000 in
set_option maxRecDepth 100000 in
theorem known9_walk (n m dx dy : Int) (b : Bool) (w : World) :
    Calls Try.prog 9 #[.int .i64 n, .int .i64 m, .int .i64 dx, .int .i64 dy, .bool b] w fun e w' => e = .returned (.bool true) ∧ Below w.heap.size w w' := by
  have S0 := St.start w
  cases hmv : moveB n m with
  | false =>
    have HS1 := Lib.hid (fun W => satin_any n m W)
    have HMv := Lib.hid (fun W => rmove_any n m W)
    rw [satinMG_no hmv] at HS1
    rw [hmv] at HMv
    clear hmv
    go_enter Try.func9, Try.ntmps9
    go_wp2_with fail
    refine (HS1.out _).mono ?_
    rintro e w1 ⟨A1, n1, cc1, rfl, hown1, hb1⟩
    have S1 := (S0.keep hb1).box #[.int .i64 Gd.zero.w, .int .i64 Gd.zero.h, .slice A1 n1 cc1] 24
    go_wp2_with fail
    refine (HMv.out _).mono ?_
    rintro e w2 ⟨rfl, hb2⟩
    have S2 := S1.keep hb2
    go_wp2_with fail
    refine (alive_any _).mono ?_
    rintro e w3 ⟨rfl, hb3⟩
    go_wp2_with fail
    go_ret
    exact ⟨rfl, (S2.keep hb3).below⟩
  | true =>
    obtain ⟨n, m, rfl, rfl, hn5, hn64, hm64⟩ := moveB_range hmv
    by_cases h20 : n ≤ 20 ∧ -1000000000 ≤ dx ∧ dx ≤ 1000000000 ∧ -1000000000 ≤ dy ∧ dy ≤ 1000000000
    · exact known9_main n m dx dy b w hmv h20.1 h20.2.1 h20.2.2.1 h20.2.2.2.1 h20.2.2.2.2
    · have HS1 := Lib.hid (fun W => satin_any (n : Int) (m : Int) W)
      rw [satinMG_yes hmv] at HS1
      have H20 := Lib.hid h20
      clear hmv h20
      generalize satinL n m n = L1 at *
      go_enter Try.func9, Try.ntmps9
      go_wp2_with fail
      refine (HS1.out _).mono ?_
      rintro e w1 ⟨A1, n1, cc1, rfl, hown1, hb1⟩
      have S1 := (S0.keep hb1).box #[.int .i64 n, .int .i64 n, .slice A1 n1 cc1] 24
      go_wp2_with fail
      all_goals first
        | (exfalso; exact H20.out ⟨by omega, by omega, by omega, by omega, by omega⟩)
        | (refine (alive_any _).mono ?_
           rintro e w2 ⟨rfl, hb2⟩
           go_wp2_with fail
           go_ret
           exact ⟨rfl, (S1.keep hb2).below⟩)
end Go.Proofs.Ytbgekiifffnalaa
