/- raddleref20.Short: the short log of lifts. -/
import Derived.Test.YtfjdlbilnoojkaaShort
namespace Go.Proofs.Ytfjdlbilnoojkaa
open Go.RowKit

set_option maxHeartbeats 4000000 in
set_option maxRecDepth 100000 in
theorem rshort_any (W H : Int) (bs : List Bool) (A : Option Addr) (n c : Nat) (w : World) (hr : Rd w A n (bs.map Value.bool)) (hnc : n ≤ c) :
    Calls Try.prog 16 #[.agg #[.int .i64 W, .int .i64 H, .slice A n c]] w (RetE (shortE W H bs) w) := by
  have hl : bs.length = n := by simpa using hr.len
  have S0 := ((St.start w).addRd hr).box #[.int .i64 W, .int .i64 H, .slice A n c] 25
  simp only [List.nil_append, List.cons_append] at S0
  have HP := Lib.hid (fun w => rpcheck_any W H A n c w)
  obtain ⟨c0, c1, c2⟩ := (S0.blk 1 rfl).cell3
  by_cases hk : chkP W H n = 0
  · have HX := Lib.hid (show ∀ a h : Nat, W = (a : Int) → H = (h : Int) → shortE W H bs = (shortL a bs h, 0) from by rintro a h rfl rfl; exact shortE_ok (by rw [hl]; exact hk))
    obtain ⟨a, h, rfl, rfl, ha1, ha, hh1, hh, hn⟩ := chkP_zero hk
    have hkb : (chkP a h n != 0) = false := by simpa using hk
    have HRO := Lib.hid (fun (k : Nat) (hk : k < h) u (hu : Below w.heap.size w u) => row20_any a h k bs A n c u ha1 (by omega) hh hk (by rw [hl]; exact hn) (hr.below hu) hnc)
    have HRL := Lib.hid (fun k (hk : k < h) => rowB_len (a := a) (h := h) (bs := bs) (by rw [hl]; exact hn) hk)
    obtain ⟨i0, hi, hz0, hz1, hz2⟩ := info_parts2 Try.infoEv
    clear hr hl hn hk
    generalize chkP a h n = K at *
    go_enter Try.func16, Try.ntmps16
    go_wp2_with fail
    refine (HP.out _).mono ?_
    rintro e w1 ⟨rfl, hb1⟩
    have S1 := S0.keep hb1
    clear c0 c1 c2
    go_wp2_with fail
    go_loopw [5, 4] (fun i u wr => ∃ (k cB : Nat) (B : Option Addr), k ≤ h ∧ i = .int .i64 k ∧ u = .slice B k cB ∧ LE wr w1.heap.size 59 4 (.slice B k cB) k (shortL a bs k) ∧ Below w1.heap.size w1 wr) (fun i _ _ => h - (intOf i).toNat)
    case atStart => exact ⟨0, 0, none, Nat.zero_le _, rfl, rfl, LE.nil _ _ _ _, Below.refl _ _⟩
    case round =>
      obtain ⟨k, cB, B, hk, rfl, rfl, hle, hbel⟩ := hrel
      have S2 := S1.keep hbel
      obtain ⟨c0, c1, c2⟩ := (S2.blk 1 rfl).cell3
      by_cases hlt : k < h
      · go_wp2_with fail
        refine (HRO.out k hlt _ S2.below).mono ?_
        rintro e w2 ⟨A', c', rfl, hown, hb2⟩
        have hbel2 := below_then hbel hb2
        have hrow : ∀ ob, RowAt (w2.alloc ob) w1.heap.size 4 A' (rowB a bs k) := fun ob => (RowAt.of_own hown).below (below_alloc1 _ _)
        have hle1 : ∀ ob, LE (w2.alloc ob) w1.heap.size 59 4 (.slice B k cB) k (shortL a bs k) := fun ob => (hle.below hb2).below (below_alloc1 _ _)
        have hsz : ∀ ob, w1.heap.size ≤ (w2.alloc ob).heap.size := fun ob => size_alloc_le hbel2.size ob
        have hbl1 : ∀ ob, Below w1.heap.size w1 (w2.alloc ob) := fun ob => hbel2.alloc hbel2.size ob
        clear c0 c1 c2
        go_wp2_with (at_builtin; go_loud (refine wpList_ev _ rfl (.tmp 17) (.tmp 22) 22 rfl w1.heap.size 59 4 i0 (.agg #[.int .u8 0, .slice none 0 0]) Try.underlying22 hi hz0 hz1 hz2 rfl (by decide) (.slice B k cB) k _ rfl (hle1 _) w2.heap.size 1 A' a c' (rowB a bs k) rfl (Blk.new _ _ _) (HRL.out k hlt) (hrow _) (by omega) (hsz _) ?_))
        intro g cap w3 hle3 hg3 hbg
        go_wp2_with fail
        go_roundw
        case rel => exact ⟨k + 1, cap, _, by omega, by go_num, rfl, by rw [shortL_succ]; exact hle3, (hbl1 _).grown hg3 (hsz _) hbg⟩
        case measure => simp [intOf]; omega
      · have hkk : k = h := by omega
        subst hkk
        have HXX := Lib.hid (HX.out a k rfl rfl)
        go_wp2_with fail
        go_ret2
        rw [HXX.out]
        obtain ⟨A3, c3, e3, h3, h4⟩ := hle.shape
        injection e3 with e4 _ e5
        subst e4 e5
        exact ⟨_, _, _, rfl, hle.read, h3, h4, S2.below⟩
  · have hkb : (chkP W H n != 0) = true := by simpa using hk
    have HX := Lib.hid (shortE_bad (W := W) (H := H) (bs := bs) (by rw [hl]; exact hk))
    rw [hl] at HX
    clear hr hl hk
    generalize chkP W H n = K at *
    go_enter Try.func16, Try.ntmps16
    go_wp2_with fail
    refine (HP.out _).mono ?_
    rintro e w1 ⟨rfl, hb1⟩
    have S1 := S0.keep hb1
    clear c0 c1 c2
    obtain ⟨c0, c1, c2⟩ := (S1.blk 1 rfl).cell3
    go_wp2_with fail
    refine (HP.out _).mono ?_
    rintro e w2 ⟨rfl, hb2⟩
    go_wp2_with fail
    go_ret2
    exact retE_bad HX.out (S1.keep hb2).below
end Go.Proofs.Ytfjdlbilnoojkaa
