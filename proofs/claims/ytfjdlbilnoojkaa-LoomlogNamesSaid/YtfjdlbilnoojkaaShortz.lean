/- loomlog.Short and raddleref20.Short: the short log of lifts. -/
import Derived.Test.YtfjdlbilnoojkaaMg3z
import Derived.Test.YtfjdlbilnoojkaaConcatBz
import Derived.Test.YtfjdlbilnoojkaaMg4z
namespace Go.Proofs.Ytfjdlbilnoojkaa
open Go.RowKit

/-- The events of the first k rows. -/
def shortL (a : Nat) (bs : List Bool) (k : Nat) : List Ev := (List.range k).map fun y => ((1 : Int), rowB a bs y)
theorem shortL_zero (a : Nat) (bs : List Bool) : shortL a bs 0 = [] := rfl
theorem shortL_succ (a : Nat) (bs : List Bool) (k : Nat) : shortL a bs (k + 1) = shortL a bs k ++ [((1 : Int), rowB a bs k)] := by unfold shortL; rw [List.range_succ, List.map_append]; rfl
/-- The rows of a grid. -/
def rowsB (a h : Nat) (bs : List Bool) : List (List Bool) := (List.range h).map (rowB a bs)
theorem rowsB_at {a h k : Nat} {bs : List Bool} (hk : k < h) : (rowsB a h bs)[k]? = some (rowB a bs k) := by unfold rowsB; rw [List.getElem?_map, List.getElem?_range hk]; rfl
/-- What Short answers. -/
def shortE (W H : Int) (bs : List Bool) : List Ev × Int := if chkP W H bs.length ≠ 0 then ([], chkP W H bs.length) else (shortL W.toNat bs H.toNat, 0)
theorem shortE_bad {W H : Int} {bs : List Bool} (h : chkP W H bs.length ≠ 0) : shortE W H bs = ([], chkP W H bs.length) := by unfold shortE; rw [if_pos h]
theorem shortE_ok {a h : Nat} {bs : List Bool} (hc : chkP a h bs.length = 0) : shortE a h bs = (shortL a bs h, 0) := by unfold shortE; rw [if_neg (by simpa using hc)]; rfl
set_option maxHeartbeats 4000000 in
set_option maxRecDepth 100000 in
theorem short_any (W H : Int) (bs : List Bool) (A : Option Addr) (n c : Nat) (w : World) (hr : Rd w A n (bs.map Value.bool)) (hnc : n ≤ c) :
    Calls Try.prog 15 #[.agg #[.int .i64 W, .int .i64 H, .slice A n c]] w (RetE (shortE W H bs) w) := by
  have hl : bs.length = n := by simpa using hr.len
  have S0 := ((St.start w).addRd hr).box #[.int .i64 W, .int .i64 H, .slice A n c] 25
  simp only [List.nil_append, List.cons_append] at S0
  have HP := Lib.hid (fun w => pcheck_any W H A n c w)
  obtain ⟨c0, c1, c2⟩ := (S0.blk 1 rfl).cell3
  by_cases hk : chkP W H n = 0
  · have HX := Lib.hid (show ∀ a h : Nat, W = (a : Int) → H = (h : Int) → shortE W H bs = (shortL a bs h, 0) from by rintro a h rfl rfl; exact shortE_ok (by rw [hl]; exact hk))
    have HK := Lib.hid hk
    obtain ⟨a, h, rfl, rfl, ha1, ha, hh1, hh, hn⟩ := chkP_zero hk
    have hkb : (chkP a h n != 0) = false := by simpa using hk
    have HPK := Lib.hid (fun u (hu : Below w.heap.size w u) => picks_any a h bs A n c u ha1 (by omega) hh1 hh (by rw [hl]; exact hn) (hr.below hu) hnc)
    have HRL := Lib.hid (fun k (hk : k < h) => rowB_len (a := a) (h := h) (bs := bs) (by rw [hl]; exact hn) hk)
    obtain ⟨i0, hi, hz0, hz1, hz2⟩ := info_parts2 Try.infoEv
    clear hr hl hn hk
    generalize chkP a h n = K at *
    go_enter Try.func15, Try.ntmps15
    go_wp2_with fail
    refine (HP.out _).mono ?_
    rintro e w1 ⟨rfl, hb1⟩
    have S1 := S0.keep hb1
    clear c0 c1 c2
    obtain ⟨c0, c1, c2⟩ := (S1.blk 1 rfl).cell3
    go_wp2_with fail
    refine (HPK.out _ S1.below).mono ?_
    rintro e w2 ⟨A2, cc, rfl, hrb, hb2⟩
    have S2 := S1.keep hb2
    clear c0 c1 c2 S0 S1 hb1
    go_wp2_with fail
    go_loopw [16, 5] (fun i u wr => ∃ (k cB : Nat) (B : Option Addr), k ≤ h ∧ i = .int .i64 k ∧ u = .slice B k cB ∧ LE wr w2.heap.size 59 4 (.slice B k cB) k (shortL a bs k) ∧ Below w2.heap.size w2 wr) (fun i _ _ => h - (intOf i).toNat)
    case atStart => exact ⟨0, 0, none, Nat.zero_le _, rfl, rfl, LE.nil _ _ _ _, Below.refl _ _⟩
    case round =>
      obtain ⟨k, cB, B, hk, rfl, rfl, hle, hbel⟩ := hrel
      by_cases hlt : k < h
      · obtain ⟨b, o, A', c', hA, hbl, d0, hrl⟩ := hrb.at_ (rowsB_at (a := a) (bs := bs) hlt)
        subst hA
        have hrl2 := hrl.below hbel
        have d1 := (hbel.cell (p := ⟨b, o + k, none⟩) hbl).trans d0
        rw [HRL.out k hlt] at d1 hrl2
        have hrow : ∀ ob, RowAt (wr.alloc ob) w2.heap.size 4 A' (rowB a bs k) := fun ob => ⟨by rw [HRL.out k hlt]; exact hrl2.alloc _, fun b' o' e hl' => .inl (hrl.lt b' o' e hl')⟩
        have hle1 : ∀ ob, LE (wr.alloc ob) w2.heap.size 59 4 (.slice B k cB) k (shortL a bs k) := fun ob => hle.below (below_alloc1 _ _)
        have hsz : ∀ ob, w2.heap.size ≤ (wr.alloc ob).heap.size := fun ob => size_alloc_le hbel.size ob
        have hbl1 : ∀ ob, Below w2.heap.size w2 (wr.alloc ob) := fun ob => hbel.alloc hbel.size ob
        clear d0
        go_wp2_with (at_builtin; go_loud (refine wpList_ev _ rfl (.tmp 20) (.tmp 23) 22 rfl w2.heap.size 59 4 i0 (.agg #[.int .u8 0, .slice none 0 0]) Try.underlying22 hi hz0 hz1 hz2 rfl (by decide) (.slice B k cB) k _ rfl (hle1 _) wr.heap.size 1 A' a c' (rowB a bs k) rfl (Blk.new _ _ _) (HRL.out k hlt) (hrow _) (by omega) (hsz _) ?_))
        intro g cap w3 hle3 hg3 hbg
        go_wp2_with fail
        go_roundw
        case rel => exact ⟨k + 1, cap, _, by omega, by go_num, rfl, by rw [shortL_succ]; exact hle3, (hbl1 _).grown hg3 (hsz _) hbg⟩
        case measure => simp [intOf]; omega
      · have hkk : k = h := by omega
        subst hkk
        have HXX := Lib.hid (HX.out a k rfl rfl)
        go_wp2_with fail
        go_ret2
        rw [HXX.out]
        obtain ⟨A3, c3, e3, h3, h4⟩ := hle.shape
        injection e3 with e4 _ e5
        subst e4 e5
        exact ⟨_, _, _, rfl, hle.read, h3, h4, (S2.keep hbel).below⟩
  · have hkb : (chkP W H n != 0) = true := by simpa using hk
    have HX := Lib.hid (shortE_bad (W := W) (H := H) (bs := bs) (by rw [hl]; exact hk))
    rw [hl] at HX
    clear hr hl hk
    generalize chkP W H n = K at *
    go_enter Try.func15, Try.ntmps15
    go_wp2_with fail
    refine (HP.out _).mono ?_
    rintro e w1 ⟨rfl, hb1⟩
    go_wp2_with fail
    go_ret2
    exact retE_bad HX.out (S0.keep hb1).below
end Go.Proofs.Ytfjdlbilnoojkaa
