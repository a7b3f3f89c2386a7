/- grid.Text gives the text of a grid, or its error. -/
import Derived.Test.YtebbcpeldncekaaDoorTextPz
import Derived.Test.YtebbcpeldncekaaDoorBldz
import Derived.Test.YtebbcpeldncekaaDoorChkz
import Derived.Test.YtebbcpeldncekaaDoorStz
import Derived.IntWalk
namespace Go.Proofs.YtebbcpeldncekaaDoor
open Go.RowKit

/-- A string and an error. -/
def RetS (r : List UInt8 × Int) (w : World) (e : Ending) (w' : World) : Prop :=
  e = .returned (.tuple #[.string ⟨r.1.toArray⟩, .int .i64 r.2]) ∧ Below w.heap.size w w'
abbrev IsB (B b : Nat) (l : List UInt8) (w : World) : Prop := Lib.IsBuilder 59 5 B b (Lib.byteCells l) w
theorem write_to (B b : Nat) (l l' : List UInt8) (c : Int) (u : UInt8) (w : World) (h : IsB B b l w) (hc : c = u.toNat) (hl : l' = l ++ [u]) (hlen : l.length + 1 ≤ 1048576) (hBw : B ≤ w.heap.size) :
    Calls Tryd.prog 33 #[.pointer (some ⟨b, 0, none⟩), .int .u8 c] w fun e w' => e = .returned .nilIface ∧ IsB B b l' w' ∧ Below B w w' := by
  have := writeByte_any B b (Lib.byteCells l) c w h (by rw [Lib.byteCells_length]; exact hlen) hBw
  refine this.mono ?_
  rintro e w' ⟨rfl, h1, h2⟩
  refine ⟨rfl, ?_, h2⟩
  subst hc hl
  unfold IsB
  have e : Lib.byteCells (l ++ [u]) = Lib.byteCells l ++ [.int .u8 (u.toNat : Int)] := by simp [Lib.byteCells]
  rw [e]
  exact h1
theorem row_cells {w : World} {bl o a b y x : Nat} {bs : List Bool} (h : Rd w (some ⟨bl, o, none⟩) (b * a) (bs.map Value.bool)) (hx : x < a) (hy : y < b) :
    w.cell? ⟨bl, o + y * a + x, none⟩ = some (.bool ((rowAt a bs y).getD x false)) := by
  have hl : bs.length = b * a := by simpa using h.len
  have hlt := Pl.cell_lt (w := a) (h := b) hx hy
  have e : (rowAt a bs y).getD x false = bs.getD (y * a + x) false := by
    unfold rowAt
    rw [List.getD_eq_getElem?_getD, List.getElem?_take, if_pos hx, List.getElem?_drop, ← List.getD_eq_getElem?_getD]
  rw [e, Nat.add_assoc]
  exact h.lit _ _ (by rw [List.getElem?_map, List.getElem?_eq_getElem (by omega)]; simp [List.getD, show y * a + x < bs.length by omega])

theorem acc_take (acc : List UInt8) (l : List Bool) (x : Nat) (h : x < l.length) : acc ++ (l.take (x + 1)).map ch = (acc ++ (l.take x).map ch) ++ [ch (l.getD x false)] := by
  rw [List.take_add_one, List.getElem?_eq_getElem h, List.getD_eq_getElem?_getD, List.getElem?_eq_getElem h, List.map_append, ← List.append_assoc]
  rfl

set_option maxHeartbeats 2000000 in
set_option maxRecDepth 100000 in
theorem text_any (g : Gd) (A : Option Addr) (n c : Nat) (w : World) (hr : Rd w A n (g.bits.map Value.bool)) (hnc : n ≤ c) :
    Calls Tryd.prog 12 #[.agg #[.int .i64 g.w, .int .i64 g.h, .slice A n c]] w (RetS (textG g) w) := by
  obtain ⟨W, H, bs⟩ := g
  simp only at hr ⊢
  have hn : bs.length = n := by simpa using hr.len
  have hs : chkG ⟨W, H, bs⟩ = chk W H n := by unfold chkG; rw [hn]
  have S0 := ((St.start w).addRd hr).box #[.int .i64 W, .int .i64 H, .slice A n c] 24
  simp only [List.nil_append, List.cons_append] at S0
  obtain ⟨c0, c1, c2⟩ := (S0.blk 1 rfl).cell3
  by_cases hc : chk W H n = 0
  · have hcb : (chk W H n != 0) = false := by simpa using hc
    obtain ⟨a, b, rfl, rfl, ha1, ha, hbb, hb, hl⟩ := chk_zero hc
    have HQ := Lib.hid (textG_ok (hs.trans hc))
    subst hl
    have HN := Lib.hid hn
    have HL := Lib.hid (textL_length hn)
    have hba : b * a ≤ 64 * 64 := Nat.mul_le_mul hb ha
    obtain ⟨bl, o, hA, _, _⟩ := hr.at_ (Nat.mul_pos hbb ha1)
    subst hA
    clear hs hc hn hr
    go_enter Tryd.func12, Tryd.ntmps12
    go_wp2_with fail
    refine (check_any _ _ _ _ _ _).mono ?_
    rintro e w1 ⟨rfl, hb1⟩
    have S := S0.keep hb1
    clear S0 c0 c1 c2 hb1
    have hI : IsB w1.heap.size w1.heap.size [] (w1.alloc (.cells #[.pointer none, .slice none 0 0] 59)) := Lib.fresh_isBuilder _ _ w1
    have hB : Below w1.heap.size w1 (w1.alloc (.cells #[.pointer none, .slice none 0 0] 59)) := (Below.refl _ _).alloc (Nat.le_refl _) _
    obtain ⟨c0, c1, c2⟩ := (S.blk 1 rfl).cell3
    have hlt := (S.blk 1 rfl).lt
    go_wp2_with fail
    go_loopw [6] (fun y wr => ∃ (k : Nat) (acc : List UInt8), k ≤ b ∧ y = .int .i64 ((k : Int) - 1) ∧ acc ++ downT (fun y => rowT (rowAt a bs y)) k = textL a b bs ∧ IsB w1.heap.size w1.heap.size acc wr ∧ Below w1.heap.size w1 wr) (fun y _ => (intOf y + 1).toNat)
    case atStart => exact ⟨b, [], Nat.le_refl _, rfl, rfl, hI, hB⟩
    case round =>
      clear hI hB c0 c1 c2
      obtain ⟨k, acc, hk, rfl, hacc, hI, hB⟩ := hrel
      have SR := S.keep hB
      obtain ⟨c0, c1, c2⟩ := (SR.blk 1 rfl).cell3
      rcases k with _ | k
      · have hq : textL a b bs = acc := by rw [← hacc]; simp [downT]
        clear hacc
        subst hq
        go_wp2_with fail
        refine (bldString_any w1.heap.size w1.heap.size _ _ hI hB.size).mono ?_
        rintro e w2 ⟨rfl, hb2⟩
        have S2 := S.keep (hB.trans hb2)
        go_wp2_with fail
        go_ret2
        exact ⟨by rw [HQ.out]; rfl, S2.below⟩
      · have HACC := Lib.hid hacc
        have hlacc : acc.length + a + 1 ≤ 4160 := by
          have h1 := congrArg List.length hacc
          have h2 := HL.out
          rw [List.length_append] at h1
          have h3 : (downT (fun y => rowT (rowAt a bs y)) (k + 1)).length = (k + 1) * (a + 1) := downT_length fun j hj => by rw [rowT_length, rowAt_length HN.out (by omega)]
          have h4 : b * (a + 1) ≤ 64 * 65 := Nat.mul_le_mul hb (by omega)
          rw [h3, Nat.succ_mul] at h1
          omega
        clear hacc
        have hk1 : ((k + 1 : Nat) : Int) - 1 = (k : Int) := by omega
        have hkb : k < b := by omega
        have hlt : (k + 1) * a ≤ b * a := Nat.mul_le_mul_right a hkb
        rw [Nat.succ_mul] at hlt
        have e1 : (k : Int) * (a : Int) = ((k * a : Nat) : Int) := (Int.natCast_mul k a).symm
        have e2 : ((k : Int) + 1) * (a : Int) = ((k * a + a : Nat) : Int) := by rw [Int.add_mul, e1]; omega
        have HC := Lib.hid (fun (wr' : World) (x : Nat) (h : Below w1.heap.size w1 wr') (hx : x < a) => row_cells (a := a) (b := b) ((S.keep h).rd 0 rfl) hx hkb)
        have hlr := Lib.hid (rowAt_length HN.out hkb)
        rw [hk1]
        generalize k * a = q at *
        generalize b * a = n at *
        clear hk1
        go_wp2_with fail
        rw [show q + a - q = a by omega]
        clear c0 c1 c2
        go_loopw [34] (fun i wr => ∃ x : Nat, x ≤ a ∧ i = .int .i64 x ∧ IsB w1.heap.size w1.heap.size (acc ++ ((rowAt a bs k).take x).map ch) wr ∧ Below w1.heap.size w1 wr) (fun i _ => a - (intOf i).toNat)
        case atStart => exact ⟨0, Nat.zero_le _, rfl, by simpa using hI, hB⟩
        case round =>
          clear hI hB SR
          obtain ⟨x, hx, rfl, hI, hB⟩ := hrel
          by_cases hlx : x < a
          · have g0 := HC.out _ x hB hlx
            have HT := Lib.hid (acc_take acc (rowAt a bs k) x (by rw [hlr.out]; exact hlx))
            have hlen : (acc ++ ((rowAt a bs k).take x).map ch).length + 1 ≤ 1048576 := by rw [List.length_append, List.length_map, List.length_take]; omega
            generalize (rowAt a bs k).getD x false = v at *
            generalize acc ++ ((rowAt a bs k).take x).map ch = acc2 at *
            cases v with
            | true =>
              go_wp2_with fail
              refine (write_to w1.heap.size w1.heap.size acc2 _ 120 120 _ hI rfl HT.out hlen hB.size).mono ?_
              rintro e w2 ⟨rfl, hI2, hb2⟩
              have hB2 := hB.trans hb2
              go_wp2_with fail
              go_roundw
              case rel => exact ⟨x + 1, by omega, by go_num, hI2, hB2⟩
              case measure => simp [intOf]; omega
            | false =>
              go_wp2_with fail
              refine (write_to w1.heap.size w1.heap.size acc2 _ 46 46 _ hI rfl HT.out hlen hB.size).mono ?_
              rintro e w2 ⟨rfl, hI2, hb2⟩
              have hB2 := hB.trans hb2
              go_wp2_with fail
              go_roundw
              case rel => exact ⟨x + 1, by omega, by go_num, hI2, hB2⟩
              case measure => simp [intOf]; omega
          · have hxe : (rowAt a bs k).take x = rowAt a bs k := List.take_of_length_le (by rw [hlr.out]; omega)
            rw [hxe] at hI
            have hlen : (acc ++ (rowAt a bs k).map ch).length + 1 ≤ 1048576 := by rw [List.length_append, List.length_map, hlr.out]; omega
            go_wp2_with fail
            refine (write_to w1.heap.size w1.heap.size (acc ++ (rowAt a bs k).map ch) _ 10 10 _ hI rfl rfl hlen hB.size).mono ?_
            rintro e w2 ⟨rfl, hI2, hb2⟩
            have hB2 := hB.trans hb2
            go_wp2_with fail
            go_roundw
            case rel => exact ⟨k, _, by omega, rfl, by rw [← HACC.out]; simp [downT, rowT], hI2, hB2⟩
            case measure => simp [intOf]
  · have hcb : (chk W H n != 0) = true := by simpa using hc
    have HQ : Hid (textG ⟨W, H, bs⟩ = ([], chk W H n)) := Lib.hid (by rw [textG_bad (by rw [hs]; exact hc), hs])
    clear hs hc
    go_enter Tryd.func12, Tryd.ntmps12
    go_wp2_with fail
    refine (check_any _ _ _ _ _ _).mono ?_
    rintro e w1 ⟨rfl, hb1⟩
    have S := S0.keep hb1
    go_wp2_with fail
    go_ret2
    exact ⟨by rw [HQ.out]; rfl, S.below⟩
end Go.Proofs.YtebbcpeldncekaaDoor
