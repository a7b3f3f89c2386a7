/- raddleref14.Text gives the text of an image, or its error. -/
import Derived.Test.YtpfonniepinjnaaIText
import Derived.Laws.IdiomStrings
namespace Go.Proofs.Ytpfonniepinjnaa
open Go.RowKit

theorem byteCells_snoc (l : List UInt8) (u : UInt8) : Lib.byteCells (l ++ [u]) = Lib.byteCells l ++ [.int .u8 (u.toNat : Int)] := by simp [Lib.byteCells]
theorem conv_bytes (B g cap : Nat) (l : List UInt8) (W : World) (h : W.ownsRow B 5 1 (.slice (some ⟨g, 0, none⟩) l.length cap) l.length (Lib.byteCells l)) :
    (convert 82 9 (.slice (some ⟨g, 0, none⟩) l.length cap)).run Try.prog W = .ok (.string ⟨l.toArray⟩) W :=
  run_convert_bytes_back W 82 9 5 ⟨g, 0, none⟩ cap l Try.underlying82 Try.underlying5 Try.underlying9 (fun j hj => by
    rw [Addr.add_lit, Nat.zero_add, h.cellAt j (by omega)]
    simp [Lib.byteCells, hj])

set_option maxHeartbeats 2000000 in
set_option maxRecDepth 100000 in
theorem ritext_any (m : Im) (A : Option Addr) (n c : Nat) (w : World) (hr : Rd w A n (m.c.map (Value.int .i64))) (hn : n ≤ 1048576) :
    Calls Try.prog 34 #[.agg #[.int .i64 m.w, .int .i64 m.h, .slice A n c]] w (RetS (textI m) w) := by
  have lb : m.c.length = n := by simpa using hr.len
  have S0 := ((St.start w).addRd hr).box #[.int .i64 m.w, .int .i64 m.h, .slice A n c] 29
  simp only [List.nil_append, List.cons_append] at S0
  obtain ⟨c0, c1, c2⟩ := (S0.blk 1 rfl).cell3
  have HT := Lib.hid (fun (W : World) h => rcheckI_any m A n c W h hn)
  obtain ⟨i0, hi, hz0, hz1, hz2⟩ := info_parts Try.infoByte
  by_cases h0 : chkI m = 0
  · obtain ⟨W, H, cs⟩ := m
    obtain ⟨a, b, h1, h2, ha1, ha, hbb, hb, hl, hf⟩ := chkI_zero h0
    simp only at h1 h2 hl hf lb
    subst h1 h2
    have HQ := Lib.hid (textI_ok h0)
    rw [h0] at HT
    simp only at HT S0 c0 c1 c2 hr ⊢
    obtain rfl : n = b * a := by omega
    have HF := Lib.hid (fun (k : Nat) (h : k < cs.length) => fineL_get hf h)
    have HN := Lib.hid hl
    have HL := Lib.hid (textU_length hl)
    have hba : b * a ≤ 64 * 64 := Nat.mul_le_mul hb ha
    clear h0 hl hf lb hr
    go_enter Try.func34, Try.ntmps34
    go_wp2_with fail
    refine (HT.out _ (S0.rd 0 rfl)).mono ?_
    rintro e w1 ⟨rfl, hb1⟩
    have S := S0.keep hb1
    clear S0 c0 c1 c2 hb1 HT
    obtain ⟨c0, c1, c2⟩ := (S.blk 1 rfl).cell3
    have hws := S.size
    go_wp2_with fail
    go_loopw [4, 5] (fun s y wr => ∃ (k : Nat) (acc : List UInt8) (Al : Option Addr) (cp : Nat), k ≤ b ∧ y = .int .i64 ((k : Int) - 1) ∧ s = .slice Al acc.length cp ∧ acc ++ downU (fun y => rowU (rowAtI a cs y)) k = textU a b cs ∧ wr.ownsRow w1.heap.size 5 1 (.slice Al acc.length cp) acc.length (Lib.byteCells acc) ∧ Below w1.heap.size w1 wr) (fun _ y _ => (intOf y + 1).toNat)
    case atStart => exact ⟨b, [], none, 0, Nat.le_refl _, by go_num, rfl, rfl, World.ownsRow_nil _ _ _ _, Below.refl _ _⟩
    case round =>
      clear c0 c1 c2
      obtain ⟨k, acc, Al, cp, hk, rfl, rfl, hacc, hO, hB⟩ := hrel
      have SR := S.keep hB
      obtain ⟨c0, c1, c2⟩ := (SR.blk 1 rfl).cell3
      rcases k with _ | k
      · have hq : textU a b cs = acc := by rw [← hacc]; simp [downU]
        have hpos : 0 < acc.length := by rw [← hq, HL.out]; exact Nat.mul_pos hbb (by omega)
        obtain ⟨g, hA, _, _, _⟩ := own_form hO hpos
        subst hA
        have hcv := conv_bytes _ _ _ _ _ hO
        clear hacc
        subst hq
        go_wp2_with fail
        go_ret2
        exact ⟨by rw [HQ.out]; rfl, SR.below⟩
      · have HACC := Lib.hid hacc
        have hlacc : acc.length + a + 1 ≤ 4160 := by
          have h1 := congrArg List.length hacc
          have h2 := HL.out
          rw [List.length_append] at h1
          have h3 : (downU (fun y => rowU (rowAtI a cs y)) (k + 1)).length = (k + 1) * (a + 1) := downU_length fun j hj => by rw [rowU_length, rowAtI_length HN.out (by omega)]
          have h4 : b * (a + 1) ≤ 64 * 65 := Nat.mul_le_mul hb (by omega)
          rw [h3, Nat.succ_mul] at h1
          omega
        clear hacc
        have hk1 : ((k + 1 : Nat) : Int) - 1 = (k : Int) := by omega
        have hkb : k < b := by omega
        have hlr := Lib.hid (rowAtI_length HN.out hkb)
        have HF2 := Lib.hid (fun (x : Nat) (hx : x < a) => by
          have := HF.out (k * a + x) (by rw [HN.out]; exact Pl.cell_lt hx hkb)
          rw [← rowAtI_get hx] at this
          exact this : ∀ x, x < a → 0 ≤ (rowAtI a cs k).getD x 0 ∧ (rowAtI a cs k).getD x 0 ≤ 15)
        rw [hk1]
        clear hk1
        go_wp2_with fail
        clear c0 c1 c2
        go_loopw [4, 6] (fun s i wr => ∃ (x : Nat) (ac : List UInt8) (Al : Option Addr) (cp : Nat), x ≤ a ∧ i = .int .i64 x ∧ ac = acc ++ ((rowAtI a cs k).take x).map chI ∧ s = .slice Al ac.length cp ∧ wr.ownsRow w1.heap.size 5 1 (.slice Al ac.length cp) ac.length (Lib.byteCells ac) ∧ Below w1.heap.size w1 wr) (fun _ i _ => a - (intOf i).toNat)
        case atStart => exact ⟨0, acc, Al, cp, Nat.zero_le _, rfl, by simp, rfl, hO, hB⟩
        case round =>
          clear hB SR hO
          obtain ⟨x, ac, Al, cp, hx, rfl, hac, rfl, hO, hB⟩ := hrel
          have SR := S.keep hB
          obtain ⟨c0, c1, c2⟩ := (SR.blk 1 rfl).cell3
          have hacl : ac.length + 1 ≤ 4170 := by rw [hac, List.length_append, List.length_map, List.length_take]; omega
          have HAC := Lib.hid hac
          clear hac
          by_cases hlx : x < a
          · have HT := Lib.hid (accU_take acc (rowAtI a cs k) x (by rw [hlr.out]; exact hlx))
            have HRW := Lib.hid (rowAtI_get (y := k) (cs := cs) hlx)
            have h15 := HF2.out x hlx
            go_wp2_with fail
            refine (atI_any a b x k _ _ rfl rfl cs _ _ c _ ha hb hlx hkb (SR.rd 0 rfl)).mono ?_
            rintro e w2 ⟨rfl, hb2⟩
            have hB2 := below_then hB hb2
            have hO2 := own_below hO hb2
            rw [← HRW.out]
            have hsz2 := hB2.size
            generalize (rowAtI a cs k).getD x 0 = v at *
            have hch := chI_nat h15.1 h15.2
            have hv8 : IntKind.u8.wrap (97 + v) = 97 + v := by unfold IntKind.wrap; simp [IntKind.bits, IntKind.signed]; omega
            clear c0 c1 c2
            go_wp2_with (at_builtin; go_loud (refine wpList_app _ rfl (.tmp 25) (.tmp 32) 82 rfl w1.heap.size 5 i0 (.int .u8 0) 1 Try.underlying82 hi hz0 hz1 hz2 rfl (by decide) (.slice Al ac.length cp) ac.length _ rfl (hO2.alloc _) w2.heap.size (.int .u8 (97 + v)) rfl (new_cell w2 _ _) rfl (by omega) (size_alloc_le hsz2 _) ?_))
            intro g cap w3 hO3 hgr
            have hB3 := (hB2.alloc hsz2 _).grown hgr (size_alloc_le hsz2 _) (fun kk hkk => (hO2.lt kk hkk).1)
            go_wp2_with fail
            go_roundw
            case rel => exact ⟨x + 1, ac ++ [chI v], some ⟨g, 0, none⟩, cap, by omega, by go_num, by rw [HT.out, HAC.out], by rw [List.length_append]; rfl, by rw [byteCells_snoc, List.length_append, hch]; exact hO3, hB3⟩
            case measure => simp [intOf]; omega
          · have hxe : (rowAtI a cs k).take x = rowAtI a cs k := List.take_of_length_le (by rw [hlr.out]; omega)
            have hac2 := HAC.out
            rw [hxe] at hac2
            have HAC2 := Lib.hid hac2
            clear hac2 hxe
            have hsz2 := hB.size
            go_wp2_with (at_builtin; go_loud (refine wpList_app _ rfl (.tmp 34) (.tmp 35) 82 rfl w1.heap.size 5 i0 (.int .u8 0) 1 Try.underlying82 hi hz0 hz1 hz2 rfl (by decide) (.slice Al ac.length cp) ac.length _ rfl (hO.alloc _) wr.heap.size (.int .u8 10) rfl (new_cell wr _ _) rfl (by omega) (size_alloc_le hsz2 _) ?_))
            intro g cap w3 hO3 hgr
            have hB3 := (hB.alloc hsz2 _).grown hgr (size_alloc_le hsz2 _) (fun kk hkk => (hO.lt kk hkk).1)
            go_wp2_with fail
            go_roundw
            case rel => exact ⟨k, ac ++ [10], some ⟨g, 0, none⟩, cap, by omega, by go_num, by rw [List.length_append]; rfl, by rw [← HACC.out, HAC2.out]; simp [downU, rowU], by rw [byteCells_snoc, List.length_append]; exact hO3, hB3⟩
            case measure => simp [intOf]
  · have hne : (chkI m != 0) = true := by simpa using h0
    have HQ := Lib.hid (textI_bad h0)
    clear h0 lb
    generalize chkI m = t at *
    go_enter Try.func34, Try.ntmps34
    go_wp2_with fail
    refine (HT.out _ (S0.rd 0 rfl)).mono ?_
    rintro e w1 ⟨rfl, hb1⟩
    have S1 := S0.keep hb1
    clear c0 c1 c2
    obtain ⟨c0, c1, c2⟩ := (S1.blk 1 rfl).cell3
    go_wp2_with fail
    refine (HT.out _ (S1.rd 0 rfl)).mono ?_
    rintro e w2 ⟨rfl, hb2⟩
    have S2 := S1.keep hb2
    go_wp2_with fail
    go_ret2
    rw [HQ.out]
    exact ⟨rfl, S2.below⟩
end Go.Proofs.Ytpfonniepinjnaa
