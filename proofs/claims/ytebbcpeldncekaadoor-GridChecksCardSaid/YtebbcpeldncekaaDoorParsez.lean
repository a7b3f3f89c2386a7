/- grid.Parse reads the text of a grid; a text of at most 1,048,576 bytes. -/
import Derived.Test.YtebbcpeldncekaaDoorStrz
import Derived.Test.YtebbcpeldncekaaDoorChkz
import Derived.Test.YtebbcpeldncekaaDoorStz
import Derived.Test.YtebbcpeldncekaaDoorMvDefz
import Derived.Test.YtebbcpeldncekaaDoorInfoBz
import Derived.IntWalk
namespace Go.Proofs.YtebbcpeldncekaaDoor
open Go.RowKit

theorem byte_cell {l : List UInt8} {x : Nat} (hx : x < l.length) (hp : x < (⟨l.toArray⟩ : ByteArray).size) : ((((⟨l.toArray⟩ : ByteArray)[x]'hp).toNat : Int) == 120) = (l.getD x 0 == 120) := by
  have e : (⟨l.toArray⟩ : ByteArray)[x]'hp = l.getD x 0 := by
    rw [List.getD_eq_getElem?_getD, List.getElem?_eq_getElem hx]
    rfl
  rw [e]
  generalize l.getD x 0 = u
  rw [Bool.eq_iff_iff, beq_iff_eq, beq_iff_eq]
  constructor
  · intro h
    exact UInt8.toNat_inj.1 (by have h2 : u.toNat = 120 := by omega
                                rw [h2]; rfl)
  · intro h
    subst h
    rfl
theorem cells_take {l : List UInt8} {x : Nat} (hx : x < l.length) : cellsL (l.take (x + 1)) = cellsL (l.take x) ++ [l.getD x 0 == 120] := by
  unfold cellsL
  rw [List.take_add_one, List.getElem?_eq_getElem hx, List.getD_eq_getElem?_getD, List.getElem?_eq_getElem hx, List.map_append]
  rfl
def TK (RR : List (List UInt8)) (k : Nat) : List Bool := (RR.take k).flatMap cellsL
theorem TK_succ {RR : List (List UInt8)} {k : Nat} (h : k < RR.length) : TK RR (k + 1) = TK RR k ++ cellsL (RR.getD k []) := by
  unfold TK
  rw [List.take_add_one, List.getElem?_eq_getElem h, List.flatMap_append, List.getD_eq_getElem?_getD, List.getElem?_eq_getElem h]
  simp
theorem TK_all (R : List (List UInt8)) : TK R.reverse R.length = bitsL R := by
  unfold TK bitsL
  rw [List.take_of_length_le (by simp)]
theorem TK_len : ∀ {m k : Nat} {RR : List (List UInt8)}, k + m = RR.length → (TK RR k).length ≤ (TK RR RR.length).length
  | 0, k, RR, h => by rw [← h]; exact Nat.le_refl _
  | m + 1, k, RR, h => by
    have h1 := TK_len (m := m) (k := k + 1) (RR := RR) (by omega)
    rw [TK_succ (by omega), List.length_append] at h1
    omega
theorem bits_len (R : List (List UInt8)) : (bitsL R).length + R.length = (nl R).length := by
  unfold bitsL nl
  rw [List.length_flatMap, List.length_flatMap]
  induction R with
  | nil => rfl
  | cons r R ih =>
    simp only [List.reverse_cons, List.map_append, List.sum_append, List.map_cons, List.map_nil, List.sum_cons, List.sum_nil, List.length_cons, List.length_append, List.length_nil] at ih ⊢
    have : (cellsL r).length = r.length := by simp [cellsL]
    rw [this]
    omega
theorem line_le {s : List UInt8} (h : Lib.hasSuffix s [10] = true) {k : Nat} (hk : k < (spl (Lib.trimSuffix s [10])).length) :
    (TK (spl (Lib.trimSuffix s [10])).reverse k).length + ((spl (Lib.trimSuffix s [10])).reverse.getD k []).length ≤ s.length ∧ (spl (Lib.trimSuffix s [10])).length ≤ s.length := by
  have e := nl_spl (Lib.trimSuffix s [10])
  rw [← suffix_text h] at e
  have hb := bits_len (spl (Lib.trimSuffix s [10]))
  rw [e] at hb
  generalize spl (Lib.trimSuffix s [10]) = R at *
  have h1 := TK_len (m := R.length - (k + 1)) (k := k + 1) (RR := R.reverse) (by simp; omega)
  rw [TK_succ (by simpa using hk), List.length_append, List.length_reverse, TK_all] at h1
  have h2 : (cellsL (R.reverse.getD k [])).length = (R.reverse.getD k []).length := by simp [cellsL]
  omega

set_option maxHeartbeats 2000000 in
set_option maxRecDepth 100000 in
theorem parse_no (s : List UInt8) (w : World) (hs : s.length ≤ 1048576) (h : Lib.hasSuffix s [10] = false ∨ Lib.trimS s [120, 46, 10] ≠ []) : Calls Tryd.prog 14 #[str s] w (RetG (Gd.zero, 12) w) := by
  have S0 := (St.start w).box #[.int .i64 0, .int .i64 0, .slice none 0 0] 24
  simp only [List.nil_append] at S0
  have HC := Lib.hid (fun W => cut_any s W (by omega))
  have HT := Lib.hid (fun W => trim3_any s W (by omega))
  cases hb : Lib.hasSuffix s [10] with
  | false =>
    rw [hb] at HC
    generalize Lib.trimSuffix s [10] = body at *
    obtain ⟨c0, c1, c2⟩ := (S0.blk 0 rfl).cell3
    obtain ⟨f0, f1, f2⟩ := (S0.blk 0 rfl).frozen3
    clear hs h hb HT
    go_enter Tryd.func14, Tryd.ntmps14
    go_wp2_with fail
    refine (HC.out _).mono ?_
    rintro e w1 ⟨rfl, h1⟩
    have h2 := h1
    subst h2
    clear h1
    go_wp2_with fail
    refine bodyPost_ret (v := .tuple #[.agg #[.int .i64 0, .int .i64 0, .slice none 0 0], .int .i64 12]) (by simp [results, Tryd.results14, go_sem]) rfl ?_
    exact bad_ret rfl S0.below
  | true =>
    have hn : Lib.trimS s [120, 46, 10] ≠ [] := by
      rcases h with h | h
      · rw [hb] at h; cases h
      · exact h
    rw [hb] at HC
    have hne : (Lib.trimS s [120, 46, 10]).isEmpty = false := by simpa using hn
    generalize Lib.trimS s [120, 46, 10] = t at *
    generalize Lib.trimSuffix s [10] = body at *
    clear hs h hb hn
    go_enter Tryd.func14, Tryd.ntmps14
    go_wp2_with fail
    refine (HC.out _).mono ?_
    rintro e w1 ⟨rfl, rfl⟩
    go_wp2_with fail
    refine (HT.out _).mono ?_
    rintro e w2 ⟨rfl, hb2⟩
    have S2 := S0.keep hb2
    have hR := S2.blk 0 rfl
    obtain ⟨c0, c1, c2⟩ := hR.cell3
    obtain ⟨f0, f1, f2⟩ := hR.frozen3
    obtain ⟨q0, q1, q2⟩ := (hR.set3 (.int .i64 0) (.int .i64 0) (.slice none 0 0)).cell3
    go_wp2_with fail
    refine bodyPost_ret (v := .tuple #[.agg #[.int .i64 0, .int .i64 0, .slice none 0 0], .int .i64 12]) (by simp [results, Tryd.results14, go_sem, q0, q1, q2]) rfl ?_
    exact bad_ret rfl (below_set3 S2.below (Nat.le_refl _) _ _ _)

set_option maxHeartbeats 2000000 in
set_option maxRecDepth 100000 in
theorem parse_yes (s : List UInt8) (w : World) (hs : s.length ≤ 1048576) (h : Lib.hasSuffix s [10] = true) (ht : Lib.trimS s [120, 46, 10] = []) : Calls Tryd.prog 14 #[str s] w (RetG (gridL (spl (Lib.trimSuffix s [10]))) w) := by
  obtain ⟨i0, hi, hz0, hz1, hz2⟩ := info_parts Tryd.infoB
  have S0 := (St.start w).box #[.int .i64 0, .int .i64 0, .slice none 0 0] 24
  simp only [List.nil_append] at S0
  have HC := Lib.hid (fun W => cut_any s W (by omega))
  have HT := Lib.hid (fun W => trim3_any s W (by omega))
  have hbl : (Lib.trimSuffix s [10]).length ≤ s.length := by
    have := congrArg List.length (suffix_text h)
    simp at this
    omega
  have HSp := Lib.hid (fun W => split_any (Lib.trimSuffix s [10]) W (by omega))
  have hne := spl_ne (Lib.trimSuffix s [10])
  have HL := Lib.hid (fun k hk => line_le (k := k) h hk)
  have hlen1 : 1 ≤ (spl (Lib.trimSuffix s [10])).length := List.length_pos_iff.2 hne
  have hlen2 := (HL.out 0 (by omega)).2
  rw [h] at HC
  rw [ht] at HT
  generalize spl (Lib.trimSuffix s [10]) = R at *
  generalize Lib.trimSuffix s [10] = body at *
  have HRV := Lib.hid (fun g W hb => reverse_any g R W hb (by omega))
  have HNO := Lib.hid (fun l (hl : l ∈ R) hb => gridL_no (l := l) hl hb)
  have HBAD := Lib.hid (fun hc => gridL_bad (R := R) hc)
  have HOK := Lib.hid (fun h0 hc => gridL_ok (R := R) h0 hc)
  have hget : ∀ k, k < R.length → R.reverse.getD k [] ∈ R := fun k hk => by
    rw [List.getD_eq_getElem?_getD, List.getElem?_eq_getElem (by simpa using hk)]
    simp
  have HGET := Lib.hid hget
  have hall := TK_all R
  have hhd : R.getD 0 [] = R.headD [] := by cases R <;> rfl
  have HTK := Lib.hid (fun k (hk : k < R.length) => TK_succ (RR := R.reverse) (k := k) (by simpa using hk))
  have hrl : R.reverse.length = R.length := List.length_reverse
  obtain ⟨Wd, hWd⟩ : ∃ Wd, (R.headD []).length = Wd := ⟨_, rfl⟩
  rw [hWd] at HNO HBAD HOK
  have hWs : Wd ≤ s.length := by
    have e1 : R.reverse.getD (R.length - 1) [] = R.headD [] := by
      rw [List.getD_eq_getElem?_getD, List.getElem?_reverse (by omega), show R.length - 1 - (R.length - 1) = 0 by omega]
      cases R <;> rfl
    have := (HL.out (R.length - 1) (by omega)).1
    rw [e1, hWd] at this
    omega
  clear h ht hget hne
  go_enter Tryd.func14, Tryd.ntmps14
  go_wp2_with fail
  refine (HC.out _).mono ?_
  rintro e w1 ⟨rfl, h1⟩
  have h2 := h1
  subst h2
  clear h1
  go_wp2_with fail
  refine (HT.out _).mono ?_
  rintro e w2 ⟨rfl, hb2⟩
  have S2 := S0.keep hb2
  go_wp2_with fail
  refine (HSp.out _).mono ?_
  rintro e w3 ⟨rfl, rfl⟩
  have S3 := S2.box (R.map str).toArray 9
  simp only [List.nil_append, List.cons_append] at S3
  have c0 : (w2.alloc (.cells (R.map str).toArray 9)).cell? ⟨w2.heap.size, 0, none⟩ = some (str (R.getD 0 [])) := by
    rw [(S3.blk 1 rfl).cell 0]
    simp [List.getD_eq_getElem?_getD, show 0 < R.length by omega]
  rw [hhd] at c0
  have c1 := size_list (R.headD [])
  rw [hWd] at c1
  generalize R.headD [] = hd at *
  go_wp2_with fail
  have S4 := S3.box #[.int .i64 Wd, .int .i64 R.length, .slice none 0 0] 24
  simp only [List.nil_append, List.cons_append] at S4
  have hlt0 := (S2.blk 0 rfl).lt
  refine (HRV.out w2.heap.size _ (S4.blk 1 rfl)).mono ?_
  rintro e w4 ⟨rfl, hLn, hOn⟩
  have hR0 := (S4.blk 0 rfl).only hOn (by simp; omega)
  have hG0 := (S4.blk 2 rfl).only hOn (by simp)
  have hB4 : Below w.heap.size w w4 := S4.below.trans (hOn.below (by simp; omega) S4.size)
  rw [size_alloc1] at hG0
  clear S0 S2 S3 S4 hOn c0 c1 hb2 HC HT HSp HRV
  go_wp2_with fail
  go_loopw [37] (fun i wr => ∃ (k cp : Nat) (A : Option Addr), k ≤ R.length ∧ i = .int .i64 k ∧ Blk wr (w2.heap.size + 1) 24 #[.int .i64 Wd, .int .i64 R.length, .slice A (TK R.reverse k).length cp] ∧
      Blk wr w.heap.size 24 #[.int .i64 0, .int .i64 0, .slice none 0 0] ∧ Blk wr w2.heap.size 9 (R.reverse.map str).toArray ∧
      (∀ j, j < k → (R.reverse.getD j []).length = Wd ∧ Lib.trimS (R.reverse.getD j []) [120, 46] = []) ∧
      wr.ownsRow w.heap.size 4 1 (.slice A (TK R.reverse k).length cp) (TK R.reverse k).length ((TK R.reverse k).map Value.bool) ∧ Below w.heap.size w wr)
    (fun i _ => R.length - (intOf i).toNat)
  case atStart => exact ⟨0, 0, none, Nat.zero_le _, rfl, hG0, hR0, hLn, fun _ h => absurd h (by omega), World.ownsRow_nil _ _ _ _, hB4⟩
  case round =>
    clear hG0 hR0 hLn hB4
    obtain ⟨k, cp, A, hk, rfl, hG, hR, hLn, hok, hown, hB⟩ := hrel
    have HK := Lib.hid hok
    clear hok
    by_cases hlt : k < R.length
    · obtain ⟨hl1, _⟩ := HL.out k hlt
      have hm := HGET.out k hlt
      have hT1 := HTK.out k hlt
      have hx0 : wr.cell? ⟨w2.heap.size, k, none⟩ = some (str (R.reverse.getD k [])) := by
        rw [hLn.cell k]
        simp [List.getD_eq_getElem?_getD, hlt]
      obtain ⟨m0, m1, m2⟩ := hG.cell3
      have hsz := size_list (R.reverse.getD k [])
      have HT2 := Lib.hid (fun W => trim2_any (R.reverse.getD k []) W (by omega))
      have HNk := Lib.hid (fun hb => HNO.out _ hm hb)
      have HKk := Lib.hid (fun (a1 : (R.reverse.getD k []).length = Wd ∧ Lib.trimS (R.reverse.getD k []) [120, 46] = []) j (hj : j < k + 1) => show (R.reverse.getD j []).length = Wd ∧ Lib.trimS (R.reverse.getD j []) [120, 46] = [] from by
        by_cases e : j = k
        · subst e; exact a1
        · exact HK.out j (by omega))
      have hTL : Hid ((TK R.reverse (k + 1)) = TK R.reverse k ++ cellsL (R.reverse.getD k [])) := Lib.hid hT1
      clear hm hT1
      generalize R.reverse.getD k [] = l at *
      by_cases hW : l.length = Wd
      · by_cases htr : Lib.trimS l [120, 46] = []
        · rw [htr] at HT2
          have hlw : ((l.length : Int) != (Wd : Int)) = false := by rw [hW]; simp
          have hKn := Lib.hid (HKk.out ⟨hW, htr⟩)
          obtain ⟨tk1, htk1⟩ : ∃ q, TK R.reverse (k + 1) = q := ⟨_, rfl⟩
          rw [htk1] at hTL
          have HQ := Lib.hid htk1
          clear htk1
          generalize TK R.reverse k = tk at *
          obtain ⟨T, hT⟩ : ∃ T, tk.length = T := ⟨_, rfl⟩
          rw [hT] at hl1 hG hown m2
          clear HNk HKk htr
          go_wp2_with fail
          refine (HT2.out _).mono ?_
          rintro e w5 ⟨rfl, hb5⟩
          have hG5 := hG.keep hb5
          have hR5 := hR.keep hb5
          have hL5 := hLn.keep hb5
          have hO5 := own_below hown hb5
          have hB5 := below_then hB hb5
          clear hG hR hLn hown hB m0 m1 m2 hx0
          go_wp2_with fail
          go_loopw [54] (fun i wr => ∃ (x cp : Nat) (A : Option Addr), x ≤ l.length ∧ i = .int .i64 x ∧ Blk wr (w2.heap.size + 1) 24 #[.int .i64 Wd, .int .i64 R.length, .slice A (T + x) cp] ∧
              Blk wr w.heap.size 24 #[.int .i64 0, .int .i64 0, .slice none 0 0] ∧ Blk wr w2.heap.size 9 (R.reverse.map str).toArray ∧
              wr.ownsRow w.heap.size 4 1 (.slice A (T + x) cp) (T + x) ((tk ++ cellsL (l.take x)).map Value.bool) ∧ Below w.heap.size w wr)
            (fun i _ => l.length - (intOf i).toNat)
          case atStart => exact ⟨0, cp, A, Nat.zero_le _, rfl, hG5, hR5, hL5, by simpa [cellsL] using hO5, hB5⟩
          case round =>
            clear hG5 hR5 hL5 hO5 hB5 A
            obtain ⟨x, cp, A, hx, rfl, hG, hR, hLn, hown, hB⟩ := hrel
            by_cases hltx : x < l.length
            · obtain ⟨m0, m1, m2⟩ := hG.cell3
              have hbs := hG.lt
              have hsx : w.heap.size ≤ wr.heap.size := hB.size
              have hcd := Lib.hid (fun (V : Value) (t : TypeId) => show (wr.alloc (.cells #[V] t)).drew.cell? ⟨wr.heap.size, 0, none⟩ = some V from new_cell wr V t)
              have hBC := Lib.hid (fun hp => byte_cell hltx hp)
              have hCT := Lib.hid (cells_take hltx)
              have hnG := own_blk_ne hown hG (by decide)
              have hnR := own_blk_ne hown hR (by decide)
              have hnL := own_blk_ne hown hLn (by decide)
              have hGa := Lib.hid (fun o => (hG.alloc o).drew)
              have hRa := Lib.hid (fun o => (hR.alloc o).drew)
              have hLa := Lib.hid (fun o => (hLn.alloc o).drew)
              have hBa := Lib.hid (fun o => (hB.alloc hB.size o).drew)
              have hOa := Lib.hid (fun o => (hown.alloc o).drew)
              go_wp2_with fail
              go_region_law
                (first
                  | (refine step_app _ rfl (.tmp 58) (.tmp 63) 22 rfl w.heap.size 4 i0 (.bool false) 1 Tryd.underlying22 hi hz0 hz1 hz2 rfl (by decide) (.slice A (T + x) cp) (T + x) _ rfl (hOa.out _) wr.heap.size (.bool _) rfl (hcd.out _ _) rfl (by omega) (size_alloc_le hsx _) ?_
                     intro g' cp' w3 hown3 hgr3
                     have hG3 := Blk.grown (hGa.out _) hgr3 hnG
                     have hfz3 := hG3.frozen 2
                     have cc3 := hG3.cell 2)
                  | fail)
              all_goals
                have hR3 := Blk.grown (hRa.out _) hgr3 hnR
                have hL3 := Blk.grown (hLa.out _) hgr3 hnL
                have hB3 := Below.grown (hBa.out _) hgr3 (size_alloc_le hsx _) (fun k hk => (hown.lt k hk).1)
                rw [hBC.out, ← List.map_singleton (f := Value.bool), ← List.map_append, List.append_assoc, ← hCT.out] at hown3
                have R1 := Lib.hid (hG3.set_ 2 (.slice (some ⟨g', 0, none⟩) (T + x + 1) cp'))
                have R2 := Lib.hid (hR3.far (p := ⟨w2.heap.size + 1, 2, none⟩) (by simp; omega) (.slice (some ⟨g', 0, none⟩) (T + x + 1) cp'))
                have R2' := Lib.hid (hL3.far (p := ⟨w2.heap.size + 1, 2, none⟩) (by simp) (.slice (some ⟨g', 0, none⟩) (T + x + 1) cp'))
                have R3 := Lib.hid (own_far hown3 (p := ⟨w2.heap.size + 1, 2, none⟩) (own_blk_ne hown3 hG3 (by decide)) (.slice (some ⟨g', 0, none⟩) (T + x + 1) cp'))
                have R4 := Lib.hid (hB3.setCell (p := ⟨w2.heap.size + 1, 2, none⟩) (by simp; omega) (.slice (some ⟨g', 0, none⟩) (T + x + 1) cp'))
                clear hR hown hB hG hLn hbs m0 m1 m2 hown3 hgr3 hG3 hfz3 cc3 hR3 hL3 hB3
                go_wp2_with fail
                go_roundw
                case rel => exact ⟨x + 1, cp', some ⟨g', 0, none⟩, by omega, by go_num, by simpa [Nat.add_assoc] using R1.out, R2.out, R2'.out, by simpa [Nat.add_assoc] using R3.out, R4.out⟩
                case measure => simp [intOf]; omega
            · have hxl : x = l.length := by omega
              have hc1 : cellsL (l.take x) = cellsL l := by rw [hxl, List.take_of_length_le (Nat.le_refl _)]
              rw [hc1, ← hTL.out] at hown
              have hl2 : T + x = tk1.length := by
                rw [hTL.out, List.length_append, hT, hxl]
                simp [cellsL]
              rw [hl2] at hown hG
              have HG := Lib.hid hG
              have HR := Lib.hid hR
              have HLn := Lib.hid hLn
              have HOw := Lib.hid hown
              have HB := Lib.hid hB
              clear hG hR hLn hown hB hxl hc1 hl2
              go_wp2_with fail
              go_roundw
              case rel => exact ⟨k + 1, cp, A, by omega, by go_num, by rw [HQ.out]; exact HG.out, HR.out, HLn.out, hKn.out, by rw [HQ.out]; exact HOw.out, HB.out⟩
              case measure => simp [intOf]; omega
        · have hte : (Lib.trimS l [120, 46]).isEmpty = false := by simpa using htr
          have HN2 := Lib.hid (HNk.out (.inr htr))
          have hlw : ((l.length : Int) != (Wd : Int)) = false := by rw [hW]; simp
          generalize Lib.trimS l [120, 46] = tr at *
          clear htr
          go_wp2_with fail
          refine (HT2.out _).mono ?_
          rintro e w5 ⟨rfl, hb5⟩
          have hR5 := hR.keep hb5
          obtain ⟨r0, r1, r2⟩ := hR5.cell3
          obtain ⟨f0, f1, f2⟩ := hR5.frozen3
          obtain ⟨q0, q1, q2⟩ := (hR5.set3 (.int .i64 0) (.int .i64 0) (.slice none 0 0)).cell3
          have hB5 := below_then hB hb5
          go_wp2_with fail
          refine bodyPost_ret (v := .tuple #[.agg #[.int .i64 0, .int .i64 0, .slice none 0 0], .int .i64 12]) (by simp [results, Tryd.results14, go_sem, q0, q1, q2]) rfl ?_
          rw [HN2.out]
          exact bad_ret rfl (below_set3 hB5 (Nat.le_refl _) _ _ _)
      · have HN2 := Lib.hid (HNk.out (.inl hW))
        have hlw : ((l.length : Int) != (Wd : Int)) = true := by simp; omega
        obtain ⟨r0, r1, r2⟩ := hR.cell3
        obtain ⟨f0, f1, f2⟩ := hR.frozen3
        obtain ⟨q0, q1, q2⟩ := (hR.set3 (.int .i64 0) (.int .i64 0) (.slice none 0 0)).cell3
        go_wp2_with fail
        refine bodyPost_ret (v := .tuple #[.agg #[.int .i64 0, .int .i64 0, .slice none 0 0], .int .i64 12]) (by simp [results, Tryd.results14, go_sem, q0, q1, q2]) rfl ?_
        rw [HN2.out]
        exact bad_ret rfl (below_set3 hB (Nat.le_refl _) _ _ _)
    · have hkl : k = R.length := by omega
      subst hkl
      rw [hall] at hG hown
      obtain ⟨n, hn⟩ : ∃ n, (bitsL R).length = n := ⟨_, rfl⟩
      rw [hn] at hG hown HBAD HOK
      have hOKa : ∀ l ∈ R, l.length = Wd ∧ Lib.trimS l [120, 46] = [] := fun l hl => by
        obtain ⟨j, hj, e⟩ := List.getElem_of_mem (List.mem_reverse.2 hl)
        have := HK.out j (by simpa using hj)
        rw [List.getD_eq_getElem?_getD, List.getElem?_eq_getElem hj, Option.getD_some, e] at this
        exact this
      have HOKa := Lib.hid hOKa
      clear hOKa hLn
      obtain ⟨m0, m1, m2⟩ := hG.cell3
      by_cases hc : chk (Wd : Int) (R.length : Int) n = 0
      · have hcb : (chk (Wd : Int) (R.length : Int) n != 0) = false := by simpa using hc
        have HF := Lib.hid (HOK.out HOKa.out hc)
        clear hc HOK HBAD HOKa
        generalize bitsL R = bs at *
        go_wp2_with fail
        refine (check_any _ _ _ _ _ _).mono ?_
        rintro e w5 ⟨rfl, hb5⟩
        have hG5 := hG.keep hb5
        have hR5 := hR.keep hb5
        have hO5 := own_below hown hb5
        have hB5 := below_then hB hb5
        clear m0 m1 m2 hG hR hown hB
        obtain ⟨m0, m1, m2⟩ := hG5.cell3
        obtain ⟨r0, r1, r2⟩ := hR5.cell3
        obtain ⟨f0, f1, f2⟩ := hR5.frozen3
        obtain ⟨q0, q1, q2⟩ := (hR5.set3 (.int .i64 Wd) (.int .i64 R.length) (.slice A n cp)).cell3
        go_wp2_with fail
        refine bodyPost_ret (v := .tuple #[.agg #[.int .i64 Wd, .int .i64 R.length, .slice A n cp], .int .i64 0]) (by simp [results, Tryd.results14, go_sem, q0, q1, q2]) rfl ?_
        rw [HF.out]
        exact ⟨A, n, cp, rfl, own_set3 hO5 hR5 (by decide) _ _ _, below_set3 hB5 (Nat.le_refl _) _ _ _⟩
      · have hcb : (chk (Wd : Int) (R.length : Int) n != 0) = true := by simpa using hc
        have HF := Lib.hid (HBAD.out hc)
        clear hc HOK HBAD HOKa
        go_wp2_with fail
        refine (check_any _ _ _ _ _ _).mono ?_
        rintro e w5 ⟨rfl, hb5⟩
        have hR5 := hR.keep hb5
        have hB5 := below_then hB hb5
        obtain ⟨r0, r1, r2⟩ := hR5.cell3
        obtain ⟨f0, f1, f2⟩ := hR5.frozen3
        obtain ⟨q0, q1, q2⟩ := (hR5.set3 (.int .i64 0) (.int .i64 0) (.slice none 0 0)).cell3
        go_wp2_with fail
        refine bodyPost_ret (v := .tuple #[.agg #[.int .i64 0, .int .i64 0, .slice none 0 0], .int .i64 12]) (by simp [results, Tryd.results14, go_sem, q0, q1, q2]) rfl ?_
        rw [HF.out]
        exact bad_ret rfl (below_set3 hB5 (Nat.le_refl _) _ _ _)
/-- grid.Parse, at any text of at most 1,048,576 bytes. -/
theorem parse_any (s : List UInt8) (w : World) (hs : s.length ≤ 1048576) : Calls Tryd.prog 14 #[str s] w (RetG (parseG s) w) := by
  by_cases h : Lib.hasSuffix s [10] = true
  · by_cases ht : Lib.trimS s [120, 46, 10] = []
    · rw [parseG_lines h ht]
      exact parse_yes s w hs h ht
    · rw [parseG_no2 ht]
      exact parse_no s w hs (.inr ht)
  · have h' : Lib.hasSuffix s [10] = false := by simpa using h
    rw [parseG_no1 h']
    exact parse_no s w hs (.inl h')
end Go.Proofs.YtebbcpeldncekaaDoor
