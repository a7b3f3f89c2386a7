/- colour.Text gives the text of an image, or its error. -/
import Derived.Test.YtpfonniepinjnaaDoorCntP
import Derived.Test.YtpfonniepinjnaaDoorWRune
import Derived.Test.YtpfonniepinjnaaDoorImCk
import Derived.IntWalk
namespace Go.Proofs.YtpfonniepinjnaaDoor
open Go.RowKit

/-- A string and an error. -/
def RetS (r : List UInt8 × Int) (w : World) (e : Ending) (w' : World) : Prop :=
  e = .returned (.tuple #[.string ⟨r.1.toArray⟩, .int .i64 r.2]) ∧ Below w.heap.size w w'
abbrev IsB (B b : Nat) (l : List UInt8) (w : World) : Prop := Lib.IsBuilder 61 5 B b (Lib.byteCells l) w
theorem write_to (B b : Nat) (l l' : List UInt8) (c : Int) (u : UInt8) (w : World) (h : IsB B b l w) (hc : c = u.toNat) (hl : l' = l ++ [u]) (hlen : l.length + 1 ≤ 1048576) (hBw : B ≤ w.heap.size) :
    Calls Tryd.prog 28 #[.pointer (some ⟨b, 0, none⟩), .int .u8 c] w fun e w' => e = .returned .nilIface ∧ IsB B b l' w' ∧ Below B w w' := by
  have := writeByte_any B b (Lib.byteCells l) c w h (by rw [Lib.byteCells_length]; exact hlen) hBw
  refine this.mono ?_
  rintro e w' ⟨rfl, h1, h2⟩
  refine ⟨rfl, ?_, h2⟩
  subst hc hl
  unfold IsB
  have e : Lib.byteCells (l ++ [u]) = Lib.byteCells l ++ [.int .u8 (u.toNat : Int)] := by simp [Lib.byteCells]
  rw [e]
  exact h1
theorem rune_to (B b : Nat) (l l' : List UInt8) (c : Int) (u : UInt8) (w : World) (h : IsB B b l w) (hc : c = u.toNat) (hu : u.toNat ≤ 127) (hl : l' = l ++ [u]) (hlen : l.length + 1 ≤ 1048576) (hBw : B ≤ w.heap.size) :
    Calls Tryd.prog 27 #[.pointer (some ⟨b, 0, none⟩), .int .i32 c] w fun e w' => e = .returned (.tuple #[.int .i64 1, .nilIface]) ∧ IsB B b l' w' ∧ Below B w w' := by
  have := writeRune_any B b (Lib.byteCells l) c w h (by omega) (by omega) (by rw [Lib.byteCells_length]; exact hlen) hBw
  refine this.mono ?_
  rintro e w' ⟨rfl, h1, h2⟩
  refine ⟨rfl, ?_, h2⟩
  subst hc hl
  unfold IsB
  have e : Lib.byteCells (l ++ [u]) = Lib.byteCells l ++ [.int .u8 (u.toNat : Int)] := by simp [Lib.byteCells]
  rw [e]
  exact h1
theorem row_cellsI {w : World} {bl o a b y x : Nat} {cs : List Int} (h : Rd w (some ⟨bl, o, none⟩) (b * a) (cs.map (Value.int .i64))) (hx : x < a) (hy : y < b) :
    w.cell? ⟨bl, o + y * a + x, none⟩ = some (.int .i64 ((rowAtI a cs y).getD x 0)) := by
  have hl : cs.length = b * a := by simpa using h.len
  have hlt := Pl.cell_lt (w := a) (h := b) hx hy
  rw [rowAtI_get hx, Nat.add_assoc]
  exact h.lit _ _ (by rw [List.getElem?_map, List.getElem?_eq_getElem (by omega)]; simp [List.getD, show y * a + x < cs.length by omega])

set_option maxHeartbeats 2000000 in
set_option maxRecDepth 100000 in
theorem itext_any (m : Im) (A : Option Addr) (n c : Nat) (w : World) (hr : Rd w A n (m.c.map (Value.int .i64))) (hn : n ≤ 1048576) (hnc : n ≤ c) :
    Calls Tryd.prog 12 #[.agg #[.int .i64 m.w, .int .i64 m.h, .slice A n c]] w (RetS (textI m) w) := by
  have lb : m.c.length = n := by simpa using hr.len
  have S0 := ((St.start w).addRd hr).box #[.int .i64 m.w, .int .i64 m.h, .slice A n c] 24
  simp only [List.nil_append, List.cons_append] at S0
  obtain ⟨c0, c1, c2⟩ := (S0.blk 1 rfl).cell3
  have HT := Lib.hid (checkI_any m A n c _ (S0.rd 0 rfl) hn)
  by_cases h0 : chkI m = 0
  · obtain ⟨W, H, cs⟩ := m
    obtain ⟨a, b, h1, h2, ha1, ha, hbb, hb, hl, hf⟩ := chkI_zero h0
    simp only at h1 h2 hl hf lb
    subst h1 h2
    have HQ := Lib.hid (textI_ok h0)
    rw [h0] at HT
    simp only at HT S0 c0 c1 c2 hr ⊢
    obtain rfl : n = b * a := by omega
    have HF := Lib.hid (fun (k : Nat) (h : k < cs.length) => fineL_get hf h)
    have HN := Lib.hid hl
    have HL := Lib.hid (textU_length hl)
    have hba : b * a ≤ 64 * 64 := Nat.mul_le_mul hb ha
    obtain ⟨bl, o, hA, _, _⟩ := hr.at_ (Nat.mul_pos hbb ha1)
    subst hA
    clear h0 hl hf lb hr
    go_enter Tryd.func12, Tryd.ntmps12
    go_wp2_with fail
    refine HT.out.mono ?_
    rintro e w1 ⟨rfl, hb1⟩
    have S := S0.keep hb1
    clear S0 c0 c1 c2 hb1 HT
    have hI : IsB w1.heap.size w1.heap.size [] (w1.alloc (.cells #[.pointer none, .slice none 0 0] 61)) := Lib.fresh_isBuilder _ _ w1
    have hB : Below w1.heap.size w1 (w1.alloc (.cells #[.pointer none, .slice none 0 0] 61)) := (Below.refl _ _).alloc (Nat.le_refl _) _
    obtain ⟨c0, c1, c2⟩ := (S.blk 1 rfl).cell3
    have hlt := (S.blk 1 rfl).lt
    go_wp2_with fail
    go_loopw [6] (fun y wr => ∃ (k : Nat) (acc : List UInt8), k ≤ b ∧ y = .int .i64 ((k : Int) - 1) ∧ acc ++ downU (fun y => rowU (rowAtI a cs y)) k = textU a b cs ∧ IsB w1.heap.size w1.heap.size acc wr ∧ Below w1.heap.size w1 wr) (fun y _ => (intOf y + 1).toNat)
    case atStart => exact ⟨b, [], Nat.le_refl _, rfl, rfl, hI, hB⟩
    case round =>
      clear hI hB c0 c1 c2
      obtain ⟨k, acc, hk, rfl, hacc, hI, hB⟩ := hrel
      have SR := S.keep hB
      obtain ⟨c0, c1, c2⟩ := (SR.blk 1 rfl).cell3
      rcases k with _ | k
      · have hq : textU a b cs = acc := by rw [← hacc]; simp [downU]
        clear hacc
        subst hq
        go_wp2_with fail
        refine (bldString_any w1.heap.size w1.heap.size _ _ hI hB.size).mono ?_
        rintro e w2 ⟨rfl, hb2⟩
        have S2 := S.keep (hB.trans hb2)
        go_wp2_with fail
        go_ret2
        exact ⟨by rw [HQ.out]; rfl, S2.below⟩
      · have HACC := Lib.hid hacc
        have hlacc : acc.length + a + 1 ≤ 4160 := by
          have h1 := congrArg List.length hacc
          have h2 := HL.out
          rw [List.length_append] at h1
          have h3 : (downU (fun y => rowU (rowAtI a cs y)) (k + 1)).length = (k + 1) * (a + 1) := downU_length fun j hj => by rw [rowU_length, rowAtI_length HN.out (by omega)]
          have h4 : b * (a + 1) ≤ 64 * 65 := Nat.mul_le_mul hb (by omega)
          rw [h3, Nat.succ_mul] at h1
          omega
        clear hacc
        have hk1 : ((k + 1 : Nat) : Int) - 1 = (k : Int) := by omega
        have hkb : k < b := by omega
        have hlt : (k + 1) * a ≤ b * a := Nat.mul_le_mul_right a hkb
        rw [Nat.succ_mul] at hlt
        have e1 : (k : Int) * (a : Int) = ((k * a : Nat) : Int) := (Int.natCast_mul k a).symm
        have e2 : ((k : Int) + 1) * (a : Int) = ((k * a + a : Nat) : Int) := by rw [Int.add_mul, e1]; omega
        have HC := Lib.hid (fun (wr' : World) (x : Nat) (h : Below w1.heap.size w1 wr') (hx : x < a) => row_cellsI (a := a) (b := b) ((S.keep h).rd 0 rfl) hx hkb)
        have hlr := Lib.hid (rowAtI_length HN.out hkb)
        have HF2 := Lib.hid (fun (x : Nat) (hx : x < a) => by
          have := HF.out (k * a + x) (by rw [HN.out]; exact Pl.cell_lt hx hkb)
          rw [← rowAtI_get hx] at this
          exact this : ∀ x, x < a → 0 ≤ (rowAtI a cs k).getD x 0 ∧ (rowAtI a cs k).getD x 0 ≤ 15)
        rw [hk1]
        generalize k * a = q at *
        generalize b * a = n at *
        clear hk1
        go_wp2_with fail
        rw [show q + a - q = a by omega]
        clear c0 c1 c2
        go_loopw [34] (fun i wr => ∃ x : Nat, x ≤ a ∧ i = .int .i64 x ∧ IsB w1.heap.size w1.heap.size (acc ++ ((rowAtI a cs k).take x).map chI) wr ∧ Below w1.heap.size w1 wr) (fun i _ => a - (intOf i).toNat)
        case atStart => exact ⟨0, Nat.zero_le _, rfl, by simpa using hI, hB⟩
        case round =>
          clear hI hB SR
          obtain ⟨x, hx, rfl, hI, hB⟩ := hrel
          by_cases hlx : x < a
          · have g0 := HC.out _ x hB hlx
            have HT := Lib.hid (accU_take acc (rowAtI a cs k) x (by rw [hlr.out]; exact hlx))
            have hlen : (acc ++ ((rowAtI a cs k).take x).map chI).length + 1 ≤ 1048576 := by rw [List.length_append, List.length_map, List.length_take]; omega
            have h15 := HF2.out x hlx
            generalize (rowAtI a cs k).getD x 0 = v at *
            generalize acc ++ ((rowAtI a cs k).take x).map chI = acc2 at *
            have hch := chI_nat h15.1 h15.2
            have hv32 : IntKind.i32.wrap v = v := by unfold IntKind.wrap; simp [IntKind.bits, IntKind.signed]; omega
            have hv33 : IntKind.i32.wrap (97 + v) = 97 + v := by unfold IntKind.wrap; simp [IntKind.bits, IntKind.signed]; omega
            go_wp2_with fail
            refine (rune_to w1.heap.size w1.heap.size acc2 _ (97 + v) (chI v) _ hI hch.symm (by omega) HT.out hlen hB.size).mono ?_
            rintro e w2 ⟨rfl, hI2, hb2⟩
            have hB2 := hB.trans hb2
            go_wp2_with fail
            go_roundw
            case rel => exact ⟨x + 1, by omega, by go_num, hI2, hB2⟩
            case measure => simp [intOf]; omega
          · have hxe : (rowAtI a cs k).take x = rowAtI a cs k := List.take_of_length_le (by rw [hlr.out]; omega)
            rw [hxe] at hI
            have hlen : (acc ++ (rowAtI a cs k).map chI).length + 1 ≤ 1048576 := by rw [List.length_append, List.length_map, hlr.out]; omega
            go_wp2_with fail
            refine (write_to w1.heap.size w1.heap.size (acc ++ (rowAtI a cs k).map chI) _ 10 10 _ hI rfl rfl hlen hB.size).mono ?_
            rintro e w2 ⟨rfl, hI2, hb2⟩
            have hB2 := hB.trans hb2
            go_wp2_with fail
            go_roundw
            case rel => exact ⟨k, _, by omega, by go_num, by rw [← HACC.out]; simp [downU, rowU], hI2, hB2⟩
            case measure => simp [intOf]
  · have hne : (chkI m != 0) = true := by simpa using h0
    have HQ := Lib.hid (textI_bad h0)
    clear h0 lb
    generalize chkI m = t at *
    go_enter Tryd.func12, Tryd.ntmps12
    go_wp2_with fail
    refine HT.out.mono ?_
    rintro e w1 ⟨rfl, hb1⟩
    have S1 := S0.keep hb1
    clear c0 c1 c2 HT
    go_wp2_with fail
    go_ret2
    rw [HQ.out]
    exact ⟨rfl, S1.below⟩
end Go.Proofs.YtpfonniepinjnaaDoor
