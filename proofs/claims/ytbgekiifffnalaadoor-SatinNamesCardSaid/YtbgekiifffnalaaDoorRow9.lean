/- satin.row. -/
import Derived.Test.YtbgekiifffnalaaDoorRepeat1
namespace Go.Proofs.YtbgekiifffnalaaDoor
open Go.RowKit

def RowRet (runs : List Int) (n : Nat) (w : World) (e : Ending) (w' : World) : Prop :=
  (validB runs = false → e = .returned (.slice none 0 0) ∧ Below w.heap.size w w') ∧ (validB runs = true → RetB (rowK runs n) w e w')
theorem rowRet_no {runs : List Int} {n : Nat} {w w' : World} (h : validB runs = false) (hb : Below w.heap.size w w') : RowRet runs n w (.returned (.slice none 0 0)) w' := ⟨fun _ => ⟨rfl, hb⟩, fun k => by rw [h] at k; cases k⟩

set_option maxHeartbeats 1000000 in
set_option maxRecDepth 100000 in
theorem prow_any (runs : List Int) (A0 : Option Addr) (n c : Nat) (w : World) (hr : Rd w A0 n (runs.map (Value.int .i64))) (hn : n ≤ 1048576) :
    Calls Tryd.prog 15 #[.slice A0 n c] w (RowRet runs n w) := by
  obtain ⟨i0, hi, hz0, hz1, hz2⟩ := info_parts Tryd.infoB
  have hl : runs.length = n := by simpa using hr.len
  have hpm : (n : Int).tmod 2 = ((n % 2 : Nat) : Int) := by rw [Int.tmod_eq_emod_of_nonneg (by omega)]; exact (Int.natCast_emod n 2).symm
  have hpe : (n : Int) % 2 = ((n % 2 : Nat) : Int) := (Int.natCast_emod n 2).symm
  by_cases h1 : n < 2
  · have HV := Lib.hid (validB_no (runs := runs) (by omega))
    clear hpm hpe
    go_enter Tryd.func15, Tryd.ntmps15
    go_wp2_with fail
    go_ret
    exact rowRet_no HV.out (Below.refl _ _)
  by_cases h2 : 64 < n
  · have HV := Lib.hid (validB_no (runs := runs) (by omega))
    clear hpm hpe
    go_enter Tryd.func15, Tryd.ntmps15
    go_wp2_with fail
    go_ret
    exact rowRet_no HV.out (Below.refl _ _)
  by_cases h3 : n % 2 = 0
  · have HE := Lib.hid (show 2 ≤ runs.length ∧ runs.length ≤ 64 ∧ runs.length % 2 = 0 by rw [hl]; omega)
    rw [h3] at hpm hpe
    have HL := Lib.hid hl
    have HR := Lib.hid hr
    clear h3 hl hr
    go_enter Tryd.func15, Tryd.ntmps15
    go_wp2_with fail
    go_loopw [22, 3] (fun i s wr => ∃ (k n1 c1 : Nat) (A : Option Addr), k ≤ n ∧ i = .int .i64 k ∧ s = .slice A n1 c1 ∧ Hid (∀ j, j < k → okAt runs j = true) ∧ wr.ownsRow w.heap.size 4 1 (.slice A n1 c1) n1 ((rowK runs k).map Value.bool) ∧ Below w.heap.size w wr) (fun i _ _ => n - (intOf i).toNat)
    case atStart => exact ⟨0, 0, 0, none, Nat.zero_le _, rfl, rfl, Lib.hid (fun j h => absurd h (by omega)), World.ownsRow_nil _ _ _ _, Below.refl _ _⟩
    case round =>
      obtain ⟨k, n1, c1, A, hk, rfl, rfl, HK, hown, hbel⟩ := hrel
      by_cases hlt : k < n
      · have hr := HR.out.below hbel
        obtain ⟨bl, o, rfl, _, _⟩ := hr.at_ (by omega)
        have hsb := preS_bound (runs := runs) (k := k) (by have := HL.out; omega) HK.out
        have hrl := rowK_length (runs := runs) (k := k) (by have := HL.out; omega) HK.out
        have hn1 : (rowK runs k).length = n1 := by have := hown.1; simpa using this
        have g0 := ints_cell hr hlt
        clear hr
        have HO := Lib.hid (show okAt runs k = decide (1 ≤ runs.getD k 0 ∧ runs.getD k 0 ≤ 64 - preS runs k) from rfl)
        have HSU := Lib.hid (rowK_succ runs k)
        have hs : preS runs k = (n1 : Int) := by omega
        rw [hs] at HO hsb
        clear hrl hs hn1
        generalize runs.getD k 0 = z at *
        generalize hxs : rowK runs k = xs at *
        clear hxs
        by_cases hz1' : z < 1
        · have HV := Lib.hid (validB_at (runs := runs) (k := k) (by have := HL.out; omega) (by rw [HO.out]; simp; omega))
          have HB := Lib.hid hbel
          clear hown hbel
          go_wp2_with fail
          go_ret
          exact rowRet_no HV.out HB.out
        by_cases hz2' : 64 - (n1 : Int) < z
        · have HV := Lib.hid (validB_at (runs := runs) (k := k) (by have := HL.out; omega) (by rw [HO.out]; simp; omega))
          have HB := Lib.hid hbel
          clear hown hbel
          go_wp2_with fail
          go_ret
          exact rowRet_no HV.out HB.out
        have HO2 : Hid (okAt runs k = true) := Lib.hid (by rw [HO.out]; simp; omega)
        obtain ⟨R, rfl⟩ : ∃ R : Nat, z = (R : Int) := ⟨z.toNat, by omega⟩
        have HRP := Lib.hid (fun A c W h => repeat_any (decide (k % 2 = 0)) A c R W h (by omega) (by omega))
        have hpm : (k : Int).tmod 2 = ((k % 2 : Nat) : Int) := by rw [Int.tmod_eq_emod_of_nonneg (by omega)]; exact (Int.natCast_emod k 2).symm
        have hpe : (k : Int) % 2 = ((k % 2 : Nat) : Int) := (Int.natCast_emod k 2).symm
        obtain ⟨pb, hpb⟩ : ∃ pb, decide (k % 2 = 0) = pb := ⟨_, rfl⟩
        have hpq : (((k % 2 : Nat) : Int) == 0) = pb := by rw [← hpb, Bool.eq_iff_iff]; simp; omega
        rw [hpb] at HRP HSU
        rw [show ((R : Int)).toNat = R by simp] at HSU
        clear hpb
        generalize k % 2 = kk at *
        have hsz := hbel.size
        have hsa := size_alloc_le hsz (.cells #[.bool pb] 4)
        have hra : Rd (wr.alloc (.cells #[.bool pb] 4)) (some ⟨wr.heap.size, 0, none⟩) 1 [Value.bool pb] := ⟨rfl, fun _ => ⟨_, _, rfl, fun j u hj => by
          match j with
          | 0 => simp at hj; subst hj; exact new_cell _ _ _
          | j + 1 => simp at hj⟩⟩
        have hca := HRP.out _ 1 _ hra
        have hba := hbel.alloc hsz (.cells #[.bool pb] 4)
        have hoa := hown.alloc (.cells #[.bool pb] 4)
        clear hra HRP hown hbel
        go_wp2_with fail
        refine hca.mono ?_
        rintro e w2 ⟨A2, n2, c2, rfl, hown2, hb2⟩
        have hn2 : n2 = R := by have := hown2.1; simp at this; omega
        subst hn2
        clear hca
        have hb2' := hb2.mono hsa
        have hs2 := hb2'.size
        have hrd2 := rd_of_own hown2
        have hob := own_below hoa hb2
        have hl1 : n2 + n1 ≤ 1048576 := by omega
        go_wp2_with (at_builtin; go_loud (refine wpList_app_all _ rfl (.tmp 36) (.tmp 42) 22 rfl w.heap.size 4 i0 (.bool false) 1 Tryd.underlying22 hi hz0 hz1 hz2 rfl (by decide) (.slice A n1 c1) n1 _ rfl hob A2 n2 c2 _ rfl hrd2 (oneCell_bools _) (by omega) (Nat.le_trans hsa hs2) ?_))
        intro A3 c3 w3 hown3 hgr3
        have hb3 := (hba.trans hb2').grown hgr3 (Nat.le_trans hsa hs2) (fun q hq => (hob.lt q hq).1)
        clear hob hown2 hrd2 hb2 hb2' hoa hba
        rw [← List.map_replicate (f := Value.bool), ← List.map_append, ← HSU.out] at hown3
        have HO3 := Lib.hid hown3
        have HB3 := Lib.hid hb3
        clear hown3 hgr3 hb3
        go_wp2_with fail
        go_roundw
        case rel =>
          refine ⟨k + 1, n1 + n2, c3, A3, by omega, by go_num, rfl, Lib.hid (fun j hj => ?_), HO3.out, HB3.out⟩
          rcases Nat.lt_or_ge j k with h | h
          · exact HK.out j h
          · obtain rfl : j = k := by omega
            exact HO2.out
        case measure => simp [intOf]; omega
      · have HV := Lib.hid (validB_yes HE.out (fun j hj => HK.out j (by have := HL.out; omega)))
        have HKN : Hid (k = n) := Lib.hid (by omega)
        go_wp2_with fail
        go_ret
        refine ⟨fun q => ?_, fun _ => ⟨A, n1, c1, rfl, by rw [← HKN.out]; exact hown, hbel⟩⟩
        rw [HV.out] at q
        cases q
  · have HV := Lib.hid (validB_no (runs := runs) (by omega))
    have h4 : n % 2 = 1 := by omega
    rw [h4] at hpm hpe
    clear h3 h4
    go_enter Tryd.func15, Tryd.ntmps15
    go_wp2_with fail
    go_ret
    exact rowRet_no HV.out (Below.refl _ _)
end Go.Proofs.YtbgekiifffnalaaDoor
