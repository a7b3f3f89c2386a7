/- raddleref20.woven: the picks of a log in one list. -/
import Derived.Test.YtfjdlbilnoojkaaLChk20z
import Derived.Test.YtfjdlbilnoojkaaConcatBz
import Derived.Test.YtfjdlbilnoojkaaMg3z
namespace Go.Proofs.Ytfjdlbilnoojkaa
open Go.RowKit

/-- The list cut short. -/
theorem own_prefix {w : World} {base e n c m : Nat} {A : Option Addr} {xs : List Value} (h : w.ownsRow base e 1 (.slice A n c) n xs) (hm : m ≤ n) (hp : 0 < n) : w.ownsRow base e 1 (.slice A m c) m (xs.take m) := by
  refine ⟨by have := h.1; rw [List.length_take]; omega, ?_⟩
  rcases h.2 with ⟨_, h0⟩ | ⟨g, cap, cur, hv, hb, hh, hnc, hcm, hcs, ht⟩
  · omega
  · injection hv with e1 _ e3
    subst e1 e3
    refine .inr ⟨g, c, cur, rfl, hb, hh, by omega, hcm, hcs, ?_⟩
    rw [← ht, List.take_take]
    congr 1
    omega
theorem flat_drop {a : Nat} {p : List (List Bool)} (h : RowsN a p) (hp : p ≠ []) : p.dropLast.flatten = p.flatten.take (p.length * a - a) := by
  have e := List.dropLast_concat_getLast hp
  have hd : RowsN a p.dropLast := fun r hr => h r ((List.dropLast_sublist _).mem hr)
  have hl := flat_len hd
  have hn : p.dropLast.length * a = p.length * a - a := by rw [List.length_dropLast, Nat.sub_mul, Nat.one_mul]
  have h3 : (p.dropLast ++ [p.getLast hp]).flatten.take (p.length * a - a) = p.dropLast.flatten := by
    rw [List.flatten_append, ← hn, ← hl]
    exact List.take_left
  rw [e] at h3
  exact h3.symm
/-- The picks, one behind the other. -/
def bitsOf (p : List (List Bool)) : List Bool := p.flatten
theorem bitsOf_snoc (p : List (List Bool)) (r : List Bool) : bitsOf (p ++ [r]) = bitsOf p ++ r := by unfold bitsOf; rw [List.flatten_append, List.flatten_singleton]
theorem bitsOf_drop {a : Nat} {p : List (List Bool)} (h : RowsN a p) (hp : p ≠ []) : bitsOf p.dropLast = (bitsOf p).take (p.length * a - a) := flat_drop h hp
/-- What woven returns. -/
def WovRet (N : Int) (l : List Ev) (w : World) (e : Ending) (w' : World) : Prop :=
  ∃ A n c, e = .returned (.tuple #[.slice A n c, .int .i64 (runE N l).1]) ∧ w'.ownsRow w.heap.size 4 1 (.slice A n c) n ((runE N l).2.flatten.map Value.bool) ∧ Below w.heap.size w w'
theorem wov_bad {N : Int} {l : List Ev} {t : Int} {w w' : World} (h : runE N l = (t, [])) (hb : Below w.heap.size w w') : WovRet N l w (.returned (.tuple #[.slice none 0 0, .int .i64 t])) w' := by
  refine ⟨none, 0, 0, ?_, ?_, hb⟩
  · rw [h]
  · rw [h]; exact World.ownsRow_nil _ _ _ _
theorem wov_ok {N : Int} {l : List Ev} {p : List (List Bool)} {w w' : World} {A : Option Addr} {n c : Nat} (h : runE N l = (0, p)) (ho : w'.ownsRow w.heap.size 4 1 (.slice A n c) n ((bitsOf p).map Value.bool)) (hb : Below w.heap.size w w') : WovRet N l w (.returned (.tuple #[.slice A n c, .int .i64 0])) w' := by
  refine ⟨A, n, c, ?_, ?_, hb⟩
  · rw [h]
  · rw [h]; exact ho
set_option maxHeartbeats 4000000 in
set_option maxRecDepth 100000 in
theorem woven_any (N : Int) (lg : List Ev) (A : Option Addr) (n c : Nat) (w : World) (hr : LogR w A n lg) :
    Calls Try.prog 38 #[.int .i64 N, .slice A n c] w (WovRet N lg w) := by
  obtain ⟨i0, hi, hz0, hz1, hz2⟩ := info_parts Try.infoB
  have HL := Lib.hid hr.len
  have HC := Lib.hid (rechk_any N lg A n c w hr)
  by_cases hck : chkE N lg = 0
  · have hkb : (chkE N lg != 0) = false := by simpa using hck
    have HCK := Lib.hid hck
    have HALL := Lib.hid (chkE_zero hck)
    obtain ⟨⟨hN1, hN2⟩, h400, _⟩ := HALL.out
    rw [HL.out] at h400
    obtain ⟨a, rfl⟩ : ∃ a : Nat, N = (a : Int) := ⟨N.toNat, by omega⟩
    have ha1 : 1 ≤ a := by omega
    have ha : a ≤ 40 := by omega
    clear hN1 hN2
    generalize chkE a lg = K at hkb HC
    go_enter Try.func38, Try.ntmps38
    go_wp2_with fail
    refine HC.out.mono ?_
    rintro e wc ⟨rfl, rfl⟩
    go_wp2_with fail
    go_loopw [7, 6] (fun i u wr => ∃ (k : Nat) (p : List (List Bool)) (m cB : Nat) (B : Option Addr), k ≤ n ∧ i = .int .i64 k ∧ u = .slice B m cB ∧ runL (lg.take k) = (0, p) ∧ RowsN a p ∧
        (m = p.length * a ∧ p.length ≤ 64 ∧ wr.ownsRow wc.heap.size 4 1 (.slice B m cB) m ((bitsOf p).map Value.bool)) ∧ Below wc.heap.size wc wr) (fun i _ _ => n - (intOf i).toNat)
    case atStart => exact ⟨0, [], 0, 0, none, Nat.zero_le _, rfl, rfl, rfl, fun r h => by simp at h, ⟨by simp, by simp, World.ownsRow_nil _ _ _ _⟩, Below.refl _ _⟩
    case round =>
      obtain ⟨k, p, m, cB, B, hk, rfl, rfl, hrn, hrows, ⟨hm, h64, hown⟩, hbel⟩ := hrel
      have HRn := Lib.hid hrn
      have HRW := Lib.hid hrows
      have HM := Lib.hid hm
      have hm64 : m ≤ 64 * a := by rw [hm]; exact Nat.mul_le_mul_right a h64
      clear hrn hrows
      by_cases hlt : k < n
      · obtain ⟨b, of, q, r, A', c', hA, hb, hi', c1, c2, hrr⟩ := (hr.below hbel).at_ hlt
        subst hA
        have HI := Lib.hid hi'
        have hok : evOk a (q, r) := HALL.out.2.2 _ (List.mem_of_getElem? hi')
        have HOK := Lib.hid hok
        have hsz := hbel.size
        rcases (show (q = 1 ∧ r.length = a) ∨ (q = 2 ∧ r = []) ∨ (q = 3 ∧ r = []) by
          rcases hok with ⟨h, h2⟩ | ⟨h | h, h2⟩
          · exact .inl ⟨h, by have h3 : (r.length : Int) = a := h2; omega⟩
          · exact .inr (.inl ⟨h, List.eq_nil_of_length_eq_zero h2⟩)
          · exact .inr (.inr ⟨h, List.eq_nil_of_length_eq_zero h2⟩)) with ⟨rfl, hra⟩ | ⟨rfl, rfl⟩ | ⟨rfl, rfl⟩
        · rw [hra] at c2 hrr
          clear hi' hok
          by_cases h65 : p.length = 64
          · have hst : stepL p (1, r) = (4, []) := by unfold stepL; rw [if_pos rfl, if_pos h65]
            have hx : 64 * a ≤ m := by rw [hm, h65]; exact Nat.le_refl _
            have hd : decide (64 * (a : Int) < ((m + a : Nat) : Int)) = true := decide_eq_true (by omega)
            have HX := Lib.hid (show runE a lg = (4, []) from by rw [runE_err HCK.out (by rw [runL_stuck ((runL_next HRn.out HI.out).trans hst) (by decide)]; decide), runL_stuck ((runL_next HRn.out HI.out).trans hst) (by decide)])
            clear hst hm
            go_wp2_with (at_builtin; go_loud (refine wpList_app_all _ rfl (.tmp 36) (.tmp 41) 23 rfl _ 4 i0 (.bool false) 1 Try.underlying23 hi hz0 hz1 hz2 rfl (by decide) (.slice B m cB) m _ rfl hown A' a c' _ rfl hrr (oneCell_bools _) (by omega) hsz ?_))
            intro B2 c2' w2 hown2 hg2
            go_wp2_with fail
            go_ret2
            exact wov_bad HX.out (hbel.grown hg2 hsz (fun g e => (hown.lt g e).1))
          · have hst : stepL p (1, r) = (0, p ++ [r]) := by unfold stepL; rw [if_pos rfl, if_neg h65]
            have HST := Lib.hid hst
            have h63 : p.length < 64 := by omega
            have hx : m + a ≤ 64 * a := by rw [hm, ← Nat.succ_mul]; exact Nat.mul_le_mul_right a h63
            have hd : decide (64 * (a : Int) < ((m + a : Nat) : Int)) = false := decide_eq_false (by omega)
            have HX := Lib.hid hx
            clear hst hm
            go_wp2_with (at_builtin; go_loud (refine wpList_app_all _ rfl (.tmp 36) (.tmp 41) 23 rfl _ 4 i0 (.bool false) 1 Try.underlying23 hi hz0 hz1 hz2 rfl (by decide) (.slice B m cB) m _ rfl hown A' a c' _ rfl hrr (oneCell_bools _) (by omega) hsz ?_))
            intro B2 c2' w2 hown2 hg2
            rw [← List.map_append] at hown2
            go_wp2_with fail
            go_roundw
            case rel => exact ⟨k + 1, p ++ [r], m + a, c2', B2, by omega, by go_num, rfl, (runL_next HRn.out HI.out).trans HST.out, fun r' h => (List.mem_append.1 h).elim (HRW.out r') (fun h => by rw [List.mem_singleton.1 h]; exact hra), ⟨by rw [List.length_append, HM.out, List.length_singleton, Nat.succ_mul], by rw [List.length_append, List.length_singleton]; omega, by rw [bitsOf_snoc]; exact hown2⟩, hbel.grown hg2 hsz (fun g e => (hown.lt g e).1)⟩
            case measure => simp [intOf]; omega
        · simp only [List.length_nil, List.map_nil] at c2 hrr
          clear hi' hok
          by_cases hp : p = []
          · subst hp
            obtain rfl : m = 0 := by simpa using hm
            have hst : stepL [] (2, []) = (36, []) := by unfold stepL; rw [if_neg (by decide), if_pos rfl, if_pos rfl]
            have HX := Lib.hid (show runE a lg = (36, []) from by rw [runE_err HCK.out (by rw [runL_stuck ((runL_next HRn.out HI.out).trans hst) (by decide)]; decide), runL_stuck ((runL_next HRn.out HI.out).trans hst) (by decide)])
            clear hst hm
            go_wp2_with fail
            go_ret2
            exact wov_bad HX.out hbel
          · have hpl : 1 ≤ p.length := by
              rcases p with _ | ⟨x, p⟩
              · exact absurd rfl hp
              · simp
            have hst : stepL p (2, []) = (0, p.dropLast) := by unfold stepL; rw [if_neg (by decide), if_pos rfl, if_neg hp]
            have HST := Lib.hid hst
            have hma : a ≤ m := by rw [hm]; exact Nat.le_mul_of_pos_left a hpl
            have hmn : m ≠ 0 := by omega
            have hown0 := own_prefix hown (m := m - a) (by omega) (by omega)
            have HF := Lib.hid (bitsOf_drop HRW.out hp)
            rw [← HM.out] at HF
            rw [← List.map_take, ← HF.out] at hown0
            obtain ⟨g, rfl, hg1, hg3, hgc⟩ := own_form hown (by omega)
            have hsub : IntKind.i64.wrap ((m : Int) - (a : Int)) = ((m - a : Nat) : Int) := by rw [wrap_small _ (by omega) (by omega)]; omega
            have hd : decide (64 * (a : Int) < ((m - a + 0 : Nat) : Int)) = false := decide_eq_false (by omega)
            have hd' : decide (64 * (a : Int) < ((m - a : Nat) : Int)) = false := decide_eq_false (by omega)
            have hle : m - a ≤ m := by omega
            have hle2 : m - a ≤ cB := by omega
            have hle3 : (m : Int) ≤ cB := by omega
            have HM2 := Lib.hid (show m - a = p.dropLast.length * a by rw [List.length_dropLast, hm, Nat.sub_mul, Nat.one_mul])
            have HD := Lib.hid hown
            have hmm : m - a ≤ 64 * a := by omega
            clear hst hm hown
            generalize hM : m - a = M at *
            have hMl := Lib.hid hM
            clear hM
            have hown := hown0
            clear hown0
            go_wp2_with (at_builtin; go_loud (refine wpList_app_all _ rfl (.tmp 36) (.tmp 41) 23 rfl _ 4 i0 (.bool false) 1 Try.underlying23 hi hz0 hz1 hz2 rfl (by decide) (.slice (some ⟨g, 0, none⟩) M cB) M _ rfl hown A' 0 c' _ rfl hrr (oneCell_bools []) (by omega) hsz ?_))
            intro B2 c2' w2 hown2 hg2
            try simp only [List.append_nil, Nat.add_zero] at hown2
            go_wp2_with fail
            go_roundw
            case rel => exact ⟨k + 1, p.dropLast, M, c2', B2, by omega, by go_num, rfl, (runL_next HRn.out HI.out).trans HST.out, fun r' h => HRW.out r' ((List.dropLast_sublist _).mem h), ⟨HM2.out, by rw [List.length_dropLast]; omega, hown2⟩, hbel.grown hg2 hsz (fun g e => (hown.lt g e).1)⟩
            case measure => simp [intOf]; omega
        · simp only [List.length_nil, List.map_nil] at c2 hrr
          clear hi' hok
          have HST := Lib.hid (show stepL p (3, []) = (0, p) by unfold stepL; rw [if_neg (by decide), if_neg (by decide)])
          have hd : decide (64 * (a : Int) < ((m + 0 : Nat) : Int)) = false := decide_eq_false (by omega)
          have hd' : decide (64 * (a : Int) < ((m : Nat) : Int)) = false := decide_eq_false (by omega)
          clear hm
          go_wp2_with (at_builtin; go_loud (refine wpList_app_all _ rfl (.tmp 36) (.tmp 41) 23 rfl _ 4 i0 (.bool false) 1 Try.underlying23 hi hz0 hz1 hz2 rfl (by decide) (.slice B m cB) m _ rfl hown A' 0 c' _ rfl hrr (oneCell_bools []) (by omega) hsz ?_))
          intro B2 c2' w2 hown2 hg2
          try simp only [List.append_nil, Nat.add_zero] at hown2
          go_wp2_with fail
          go_roundw
          case rel => exact ⟨k + 1, p, m, c2', B2, by omega, by go_num, rfl, (runL_next HRn.out HI.out).trans HST.out, HRW.out, ⟨HM.out, h64, hown2⟩, hbel.grown hg2 hsz (fun g e => (hown.lt g e).1)⟩
          case measure => simp [intOf]; omega
      · have hkk : k = n := by omega
        subst hkk
        have HX := Lib.hid (show runE a lg = (0, p) from runE_ok HCK.out (runL_all HL.out HRn.out))
        clear hm
        go_wp2_with fail
        go_ret2
        exact wov_ok HX.out hown hbel
  · have hkb : (chkE N lg != 0) = true := by simpa using hck
    have HX := Lib.hid (runE_chk hck)
    generalize hKe : chkE N lg = K at hkb HC HX
    clear hKe hck
    go_enter Try.func38, Try.ntmps38
    go_wp2_with fail
    refine HC.out.mono ?_
    rintro e wc ⟨rfl, rfl⟩
    go_wp2_with fail
    refine HC.out.mono ?_
    rintro e wc ⟨rfl, rfl⟩
    go_wp2_with fail
    go_ret2
    exact wov_bad HX.out (Below.refl _ _)
end Go.Proofs.Ytfjdlbilnoojkaa
