/- loomlog.Spoil: lifts with a fault. -/
import Derived.Test.YtfjdlbilnoojkaaSpoiltz
import Derived.Test.YtfjdlbilnoojkaaSpoilP20z
import Derived.Test.YtfjdlbilnoojkaaMg5z
import Derived.Test.YtfjdlbilnoojkaaInvRz
import Derived.Deep.Draws
namespace Go.Proofs.Ytfjdlbilnoojkaa
open Go.RowKit

set_option linter.unusedVariables false in
def SL (w Wd : World) (a h np : Nat) (q k : Int) (A Al : Option Addr) (nA cA nl cl : Nat) (rs P : List (List Bool)) : List Bool → List Value → World → Prop
  | [l0, l1, l2, l3, l4, l5, l6, l7, l8, l9], [x0, x1, x2, x3, x4, x5, x6, x7, x8, x9], u => (Below Wd.heap.size Wd u) ∧ (l0 = true → x0 = .pointer (some ⟨w.heap.size, 0, none⟩)) ∧ (l1 = true → x1 = .int .i64 (a : Int)) ∧ (l2 = true → x2 = .agg #[.int .i64 (a : Int), .int .i64 (h : Int), .slice A nA cA]) ∧ (l3 = true → l9 = false → ∃ (A' : Option Addr) (c' : Nat), x3 = .slice A' h c' ∧ LRB u A' rs) ∧ (l4 = true → x4 = .agg #[.int .u8 q, .int .i64 k]) ∧ (l5 = true → x5 = .slice Al nl cl) ∧ (l6 = true → l9 = false → ∃ (A' : Option Addr) (c' : Nat), x6 = .slice A' np c' ∧ LRB u A' P) ∧ (l7 = true → l9 = false → ∃ (A' : Option Addr) (m c' : Nat), x7 = .agg #[.int .i64 (a : Int), .int .i64 (np : Int), .slice A' m c'] ∧ u.ownsRow w.heap.size 4 1 (.slice A' m c') m (P.flatten.map Value.bool)) ∧ (l8 = true → l9 = false → ∃ g : Nat, x8 = .pointer (some ⟨g, 0, none⟩) ∧ Blk u g 25 #[.int .i64 0, .int .i64 0, .slice none 0 0] ∧ Wd.heap.size ≤ g) ∧ (l9 = true → (l6 = true ∧ l7 = true ∧ l8 = true) ∧ ∃ (g : Nat) (A' : Option Addr) (m c' : Nat), x8 = .pointer (some ⟨g, 0, none⟩) ∧ Blk u g 25 #[.int .i64 (a : Int), .int .i64 (np : Int), .slice A' m c'] ∧ Wd.heap.size ≤ g ∧ u.ownsRow w.heap.size 4 1 (.slice A' m c') m (P.flatten.map Value.bool))
  | _, _, _ => False
theorem SL_get (w Wd : World) (a h np : Nat) (q k : Int) (A Al : Option Addr) (nA cA nl cl : Nat) (rs P : List (List Bool)) {l0 l1 l2 l3 l4 l5 l6 l7 l8 l9 : Bool} {x0 x1 x2 x3 x4 x5 x6 x7 x8 x9 : Value} {u : World} (hyp : SL w Wd a h np q k A Al nA cA nl cl rs P [l0, l1, l2, l3, l4, l5, l6, l7, l8, l9] [x0, x1, x2, x3, x4, x5, x6, x7, x8, x9] u) : (Below Wd.heap.size Wd u) ∧ (l0 = true → x0 = .pointer (some ⟨w.heap.size, 0, none⟩)) ∧ (l1 = true → x1 = .int .i64 (a : Int)) ∧ (l2 = true → x2 = .agg #[.int .i64 (a : Int), .int .i64 (h : Int), .slice A nA cA]) ∧ (l3 = true → l9 = false → ∃ (A' : Option Addr) (c' : Nat), x3 = .slice A' h c' ∧ LRB u A' rs) ∧ (l4 = true → x4 = .agg #[.int .u8 q, .int .i64 k]) ∧ (l5 = true → x5 = .slice Al nl cl) ∧ (l6 = true → l9 = false → ∃ (A' : Option Addr) (c' : Nat), x6 = .slice A' np c' ∧ LRB u A' P) ∧ (l7 = true → l9 = false → ∃ (A' : Option Addr) (m c' : Nat), x7 = .agg #[.int .i64 (a : Int), .int .i64 (np : Int), .slice A' m c'] ∧ u.ownsRow w.heap.size 4 1 (.slice A' m c') m (P.flatten.map Value.bool)) ∧ (l8 = true → l9 = false → ∃ g : Nat, x8 = .pointer (some ⟨g, 0, none⟩) ∧ Blk u g 25 #[.int .i64 0, .int .i64 0, .slice none 0 0] ∧ Wd.heap.size ≤ g) ∧ (l9 = true → (l6 = true ∧ l7 = true ∧ l8 = true) ∧ ∃ (g : Nat) (A' : Option Addr) (m c' : Nat), x8 = .pointer (some ⟨g, 0, none⟩) ∧ Blk u g 25 #[.int .i64 (a : Int), .int .i64 (np : Int), .slice A' m c'] ∧ Wd.heap.size ≤ g ∧ u.ownsRow w.heap.size 4 1 (.slice A' m c') m (P.flatten.map Value.bool)) := hyp
theorem SL_mk (w Wd : World) (a h np : Nat) (q k : Int) (A Al : Option Addr) (nA cA nl cl : Nat) (rs P : List (List Bool)) {l0 l1 l2 l3 l4 l5 l6 l7 l8 l9 : Bool} {x0 x1 x2 x3 x4 x5 x6 x7 x8 x9 : Value} {u : World} (hyp : (Below Wd.heap.size Wd u) ∧ (l0 = true → x0 = .pointer (some ⟨w.heap.size, 0, none⟩)) ∧ (l1 = true → x1 = .int .i64 (a : Int)) ∧ (l2 = true → x2 = .agg #[.int .i64 (a : Int), .int .i64 (h : Int), .slice A nA cA]) ∧ (l3 = true → l9 = false → ∃ (A' : Option Addr) (c' : Nat), x3 = .slice A' h c' ∧ LRB u A' rs) ∧ (l4 = true → x4 = .agg #[.int .u8 q, .int .i64 k]) ∧ (l5 = true → x5 = .slice Al nl cl) ∧ (l6 = true → l9 = false → ∃ (A' : Option Addr) (c' : Nat), x6 = .slice A' np c' ∧ LRB u A' P) ∧ (l7 = true → l9 = false → ∃ (A' : Option Addr) (m c' : Nat), x7 = .agg #[.int .i64 (a : Int), .int .i64 (np : Int), .slice A' m c'] ∧ u.ownsRow w.heap.size 4 1 (.slice A' m c') m (P.flatten.map Value.bool)) ∧ (l8 = true → l9 = false → ∃ g : Nat, x8 = .pointer (some ⟨g, 0, none⟩) ∧ Blk u g 25 #[.int .i64 0, .int .i64 0, .slice none 0 0] ∧ Wd.heap.size ≤ g) ∧ (l9 = true → (l6 = true ∧ l7 = true ∧ l8 = true) ∧ ∃ (g : Nat) (A' : Option Addr) (m c' : Nat), x8 = .pointer (some ⟨g, 0, none⟩) ∧ Blk u g 25 #[.int .i64 (a : Int), .int .i64 (np : Int), .slice A' m c'] ∧ Wd.heap.size ≤ g ∧ u.ownsRow w.heap.size 4 1 (.slice A' m c') m (P.flatten.map Value.bool))) : SL w Wd a h np q k A Al nA cA nl cl rs P [l0, l1, l2, l3, l4, l5, l6, l7, l8, l9] [x0, x1, x2, x3, x4, x5, x6, x7, x8, x9] u := hyp
theorem SL_b : ∀ l : List Bool, l.length = 10 → ∃ a0 a1 a2 a3 a4 a5 a6 a7 a8 a9, l = [a0, a1, a2, a3, a4, a5, a6, a7, a8, a9]
  | [a0, a1, a2, a3, a4, a5, a6, a7, a8, a9], _ => ⟨a0, a1, a2, a3, a4, a5, a6, a7, a8, a9, rfl⟩
theorem SL_v : ∀ l : List Value, l.length = 10 → ∃ a0 a1 a2 a3 a4 a5 a6 a7 a8 a9, l = [a0, a1, a2, a3, a4, a5, a6, a7, a8, a9]
  | [a0, a1, a2, a3, a4, a5, a6, a7, a8, a9], _ => ⟨a0, a1, a2, a3, a4, a5, a6, a7, a8, a9, rfl⟩
set_option linter.unusedVariables false in
set_option maxHeartbeats 16000000 in
set_option maxRecDepth 100000 in
theorem spoil20_any (W H : Int) (bs : List Bool) (A : Option Addr) (nA cA : Nat) (q k0 : Int) (lift : List Bool) (Al : Option Addr) (cl : Nat) (w : World) (hr : Rd w A nA (bs.map Value.bool)) (hnc : nA ≤ cA) (hrl : Rd w Al lift.length (lift.map Value.bool)) (hq0 : 0 ≤ q) (hll : lift.length ≤ 1000) :
    Calls Try.prog 25 #[.agg #[.int .i64 W, .int .i64 H, .slice A nA cA], .agg #[.int .u8 q, .int .i64 k0], .slice Al lift.length cl] w (RetG (spoilG W H bs q k0 lift) w) := by
  have hl : bs.length = nA := by simpa using hr.len
  have S0 := (((St.start w).box #[.int .i64 W, .int .i64 H, .slice A nA cA] 25).box #[.int .u8 q, .int .i64 k0] 46).box #[.int .i64 0, .int .i64 0, .slice none 0 0] 25
  simp only [size_alloc1, List.nil_append, List.cons_append] at S0
  have HP := Lib.hid (fun u => pcheck_any W H A nA cA u)
  obtain ⟨c0, c1, c2⟩ := (S0.blk 0 rfl).cell3
  obtain ⟨d0, d1⟩ := (S0.blk 1 rfl).cell2
  by_cases hk : chkP W H nA = 0
  · have hkb : (chkP W H nA != 0) = false := by simpa using hk
    have hck : chkP W H bs.length = 0 := by rw [hl]; exact hk
    by_cases hq3 : 3 < q
    · have hqd : decide (3 < q) = true := decide_eq_true hq3
      have HX := Lib.hid (spoilG_2 (k := k0) (lift := lift) hck hq3)
      generalize spoilG W H bs q k0 lift = R at *
      generalize chkP W H nA = K at *
      clear hr hl hk hck hrl
      go_enter Try.func25, Try.ntmps25
      go_wp2_with fail
      refine (HP.out _).mono ?_
      rintro e w1 ⟨rfl, hb1⟩
      have S1 := S0.keep hb1
      clear c0 c1 c2 d0 d1
      obtain ⟨c0, c1, c2⟩ := (S1.blk 0 rfl).cell3
      obtain ⟨d0, d1⟩ := (S1.blk 1 rfl).cell2
      obtain ⟨r0, r1, r2⟩ := (S1.blk 2 rfl).cell3
      obtain ⟨f0, f1, f2⟩ := (S1.blk 2 rfl).frozen3
      obtain ⟨q0, q1, q2⟩ := ((S1.blk 2 rfl).set3 (.int .i64 0) (.int .i64 0) (.slice none 0 0)).cell3
      go_wp2_with fail
      refine bodyPost_ret (v := .tuple #[.agg #[.int .i64 0, .int .i64 0, .slice none 0 0], .int .i64 8]) (by simp [results, Try.results25, go_sem, q0, q1, q2]) rfl ?_
      rw [HX.out]
      exact ⟨none, 0, 0, rfl, World.ownsRow_nil _ _ _ _, below_set3 S1.below (by omega) _ _ _⟩
    have hqd : decide (3 < q) = false := decide_eq_false hq3
    by_cases harg : k0 < 0 ∨ H ≤ k0 ∨ (q = 0 ∧ k0 ≠ 0)
    · have HX := Lib.hid (spoilG_3 (lift := lift) hck hq3 harg)
      generalize spoilG W H bs q k0 lift = R at *
      generalize chkP W H nA = K at *
      clear hr hl hk hck hrl
      by_cases ha1 : k0 < 0
      · have hA1 : decide (k0 < 0) = true := decide_eq_true ha1
        clear harg
        go_enter Try.func25, Try.ntmps25
        go_wp2_with fail
        refine (HP.out _).mono ?_
        rintro e w1 ⟨rfl, hb1⟩
        have S1 := S0.keep hb1
        clear c0 c1 c2 d0 d1
        obtain ⟨c0, c1, c2⟩ := (S1.blk 0 rfl).cell3
        obtain ⟨d0, d1⟩ := (S1.blk 1 rfl).cell2
        obtain ⟨r0, r1, r2⟩ := (S1.blk 2 rfl).cell3
        obtain ⟨f0, f1, f2⟩ := (S1.blk 2 rfl).frozen3
        obtain ⟨q0, q1, q2⟩ := ((S1.blk 2 rfl).set3 (.int .i64 0) (.int .i64 0) (.slice none 0 0)).cell3
        go_wp2_with fail
        refine bodyPost_ret (v := .tuple #[.agg #[.int .i64 0, .int .i64 0, .slice none 0 0], .int .i64 2]) (by simp [results, Try.results25, go_sem, q0, q1, q2]) rfl ?_
        rw [HX.out]
        exact ⟨none, 0, 0, rfl, World.ownsRow_nil _ _ _ _, below_set3 S1.below (by omega) _ _ _⟩
      have hA1 : decide (k0 < 0) = false := decide_eq_false ha1
      by_cases ha2 : H ≤ k0
      · have hA2 : decide (H ≤ k0) = true := decide_eq_true ha2
        clear harg
        go_enter Try.func25, Try.ntmps25
        go_wp2_with fail
        refine (HP.out _).mono ?_
        rintro e w1 ⟨rfl, hb1⟩
        have S1 := S0.keep hb1
        clear c0 c1 c2 d0 d1
        obtain ⟨c0, c1, c2⟩ := (S1.blk 0 rfl).cell3
        obtain ⟨d0, d1⟩ := (S1.blk 1 rfl).cell2
        obtain ⟨r0, r1, r2⟩ := (S1.blk 2 rfl).cell3
        obtain ⟨f0, f1, f2⟩ := (S1.blk 2 rfl).frozen3
        obtain ⟨q0, q1, q2⟩ := ((S1.blk 2 rfl).set3 (.int .i64 0) (.int .i64 0) (.slice none 0 0)).cell3
        go_wp2_with fail
        refine bodyPost_ret (v := .tuple #[.agg #[.int .i64 0, .int .i64 0, .slice none 0 0], .int .i64 2]) (by simp [results, Try.results25, go_sem, q0, q1, q2]) rfl ?_
        rw [HX.out]
        exact ⟨none, 0, 0, rfl, World.ownsRow_nil _ _ _ _, below_set3 S1.below (by omega) _ _ _⟩
      have hA2 : decide (H ≤ k0) = false := decide_eq_false ha2
      obtain ⟨rfl, hk0⟩ : q = 0 ∧ k0 ≠ 0 := by rcases harg with h | h | h; exact absurd h ha1; exact absurd h ha2; exact h
      have hA3 : (k0 != 0) = true := by simpa using hk0
      clear harg
      go_enter Try.func25, Try.ntmps25
      go_wp2_with fail
      refine (HP.out _).mono ?_
      rintro e w1 ⟨rfl, hb1⟩
      have S1 := S0.keep hb1
      clear c0 c1 c2 d0 d1
      obtain ⟨c0, c1, c2⟩ := (S1.blk 0 rfl).cell3
      obtain ⟨d0, d1⟩ := (S1.blk 1 rfl).cell2
      obtain ⟨r0, r1, r2⟩ := (S1.blk 2 rfl).cell3
      obtain ⟨f0, f1, f2⟩ := (S1.blk 2 rfl).frozen3
      obtain ⟨q0, q1, q2⟩ := ((S1.blk 2 rfl).set3 (.int .i64 0) (.int .i64 0) (.slice none 0 0)).cell3
      go_wp2_with fail
      refine bodyPost_ret (v := .tuple #[.agg #[.int .i64 0, .int .i64 0, .slice none 0 0], .int .i64 2]) (by simp [results, Try.results25, go_sem, q0, q1, q2]) rfl ?_
      rw [HX.out]
      exact ⟨none, 0, 0, rfl, World.ownsRow_nil _ _ _ _, below_set3 S1.below (by omega) _ _ _⟩
    obtain ⟨k, rfl⟩ : ∃ k : Nat, k0 = (k : Int) := ⟨k0.toNat, by omega⟩
    have hA1 : decide ((k : Int) < 0) = false := decide_eq_false (by omega)
    have hA2 : decide (H ≤ (k : Int)) = false := decide_eq_false (by omega)
    have hA3 : q = 0 → ((k : Int) != 0) = false := fun h => by have : ¬ (q = 0 ∧ (k : Int) ≠ 0) := fun h2 => harg (.inr (.inr h2)); simp; omega
    have HARG := Lib.hid harg
    have hkH : (k : Int) < H := by omega
    have hk00 : q = 0 → k = 0 := fun h => by have : ¬ (q = 0 ∧ (k : Int) ≠ 0) := fun h2 => harg (.inr (.inr h2)); omega
    clear harg
    by_cases hcnt : q = 3 ∧ (lift.length : Int) ≠ W
    · obtain ⟨rfl, hlw⟩ := hcnt
      have HX := Lib.hid (spoilG_4 hck hq3 HARG.out ⟨rfl, hlw⟩)
      have hlb : ((lift.length : Int) != W) = true := by simpa using hlw
      generalize spoilG W H bs 3 k lift = R at *
      generalize chkP W H nA = K at *
      clear hr hl hk hck hrl hlw
      go_enter Try.func25, Try.ntmps25
      go_wp2_with fail
      refine (HP.out _).mono ?_
      rintro e w1 ⟨rfl, hb1⟩
      have S1 := S0.keep hb1
      clear c0 c1 c2 d0 d1
      obtain ⟨c0, c1, c2⟩ := (S1.blk 0 rfl).cell3
      obtain ⟨d0, d1⟩ := (S1.blk 1 rfl).cell2
      obtain ⟨r0, r1, r2⟩ := (S1.blk 2 rfl).cell3
      obtain ⟨f0, f1, f2⟩ := (S1.blk 2 rfl).frozen3
      obtain ⟨q0, q1, q2⟩ := ((S1.blk 2 rfl).set3 (.int .i64 0) (.int .i64 0) (.slice none 0 0)).cell3
      go_wp2_with fail
      refine bodyPost_ret (v := .tuple #[.agg #[.int .i64 0, .int .i64 0, .slice none 0 0], .int .i64 26]) (by simp [results, Try.results25, go_sem, q0, q1, q2]) rfl ?_
      rw [HX.out]
      exact ⟨none, 0, 0, rfl, World.ownsRow_nil _ _ _ _, below_set3 S1.below (by omega) _ _ _⟩
    have HCNT := Lib.hid hcnt
    have HCK := Lib.hid hck
    obtain ⟨a, h, rfl, rfl, ha1, ha, hh1, hh, hn⟩ := chkP_zero hk
    obtain ⟨P, hP⟩ : ∃ P, spoiltL (rowsB a h bs) q k lift = P := ⟨_, rfl⟩
    have hlen := hl.trans hn
    have hkh : k < h := by omega
    have hrows : RowsN a P := by rw [← hP]; exact spoiltL_rows (rowsB_rows hlen) (by rw [rowsB_len]; exact hkh) (fun h3 => by have : ¬ (lift.length : Int) ≠ a := fun h4 => hcnt ⟨h3, h4⟩; omega)
    have hPl : P.length ≤ 65 := by rw [← hP, spoiltL_len (by rw [rowsB_len]; exact hkh), rowsB_len]; split <;> (try split) <;> omega
    obtain ⟨np, hnp⟩ : ∃ np, P.length = np := ⟨_, rfl⟩
    have HNP := Lib.hid hnp
    have HX5 := Lib.hid (spoilG_5 (q := q) (n := k) (lift := lift) HCK.out hq3 HARG.out HCNT.out hP)
    obtain ⟨FL, hFL⟩ : ∃ FL, P.flatten.length = FL := ⟨_, rfl⟩
    have HFL := Lib.hid hFL
    rw [hnp, hFL] at HX5
    clear hFL
    have hA2n : decide (h ≤ k) = false := decide_eq_false (by omega)
    have HPK := Lib.hid (fun u (hu : Below w.heap.size w u) => (picks_any a h bs A nA cA u ha1 (by omega) hh1 hh hlen (hr.below hu) hnc : Calls _ _ _ u fun e w' => ∃ A' c', e = .returned (.slice A' h c') ∧ LRB w' A' (rowsB a h bs) ∧ Below u.heap.size u w'))
    have HSP := Lib.hid (fun u (A' : Option Addr) (c' : Nat) (hu : Below w.heap.size w u) (hlr : LRB u A' (rowsB a h bs)) => (spoilt_any (rowsB a h bs) A' h c' k q lift Al cl u (rowsB_len _ _ _) (by omega) hkh hlr (hrl.below hu)).mono fun (e : Ending) (w' : World) ⟨A2, n2, c2, h1, h2, h3, h4⟩ => show ∃ A2 c2, e = Ending.returned (Value.slice A2 np c2) ∧ LRB w' A2 P ∧ Below u.heap.size u w' from ⟨A2, c2, by rw [h1, h3, hP, hnp], by rw [← hP]; exact h2, h4⟩)
    have HLF := Lib.hid (fun u (A' : Option Addr) (c' : Nat) (hlr : LRB u A' P) => lifts_any (a : Int) a np P A' c' u hnp hlr hrows (by omega) (by omega))
    generalize spoilG a h bs q k lift = R at *
    generalize chkP a h nA = K at *
    have hq3b : ∀ (c : Bool), q = 3 → ((lift.length : Int) != (a : Int)) = false := fun _ h3 => by have : ¬ (lift.length : Int) ≠ a := fun h4 => HCNT.out ⟨h3, h4⟩; simpa using this
    clear hr hl hk hck hrl hcnt hn hlen hP hrows hnp hPl
    have hcases : (q = 0 ∧ k = 0) ∨ (q = 3 ∧ ((lift.length : Int) != (a : Int)) = false) ∨ ((q == 0) = false ∧ (q == 3) = false) := by
      by_cases h0 : q = 0
      · exact .inl ⟨h0, hk00 h0⟩
      · by_cases h3 : q = 3
        · exact .inr (.inl ⟨h3, hq3b true h3⟩)
        · exact .inr (.inr ⟨by simpa using h0, by simpa using h3⟩)
    clear hk00 hq3b hA3
    rcases hcases with hc | hc | hc
    · obtain ⟨hq0', hk0'⟩ := hc
      have hb0 : (q == 0) = true := by simpa using hq0'
      have hb0k : ((k : Int) != 0) = false := by simp; omega
      have hb3 : (q == 3) = false := by simp; omega
      clear hq0' hk0'
      go_enter Try.func25, Try.ntmps25
      go_wp2_with fail
      refine (HP.out _).mono ?_
      rintro e wS ⟨rfl, hb1⟩
      have S1 := S0.keep hb1
      clear c0 c1 c2 d0 d1
      obtain ⟨c0, c1, c2⟩ := (S1.blk 0 rfl).cell3
      obtain ⟨d0, d1⟩ := (S1.blk 1 rfl).cell2
      go_wp2_with fail
      have SD1 := Lib.hid (fun u (hu : Below wS.drew.heap.size wS.drew u) => show St w [Fact.blk _ _ _, Fact.blk _ _ _, Fact.blk _ _ _] u from S1.drew.keep hu)
      clear c0 c1 c2 d0 d1
      refine wp_region_invL 10 [some 53, some 54, some 55, some 56, some 57, some 58, some 59, some 60, some 9, none] (SL w wS.drew a h np q (k : Int) A Al nA cA lift.length cl (rowsB a h bs) P) (by kernel_rfl) rfl rfl (by decide) (by kernel_rfl) (fun xs hx => ?_) (fun i hi => ?_) (fun xs wf hx hG => ?_)
      · obtain ⟨x0, x1, x2, x3, x4, x5, x6, x7, x8, x9, rfl⟩ := SL_v xs hx
        show SL w wS.drew a h np q (k : Int) A Al nA cA lift.length cl (rowsB a h bs) P [false, false, false, false, false, false, false, false, false, false] [x0, x1, x2, x3, x4, x5, x6, x7, x8, x9] _
        refine SL_mk w wS.drew a h np q (k : Int) A Al nA cA lift.length cl (rowsB a h bs) P ?_
        exact ⟨Below.refl _ _, (fun g1 => by cases g1), (fun g1 => by cases g1), (fun g1 => by cases g1), (fun g1 => by cases g1), (fun g1 => by cases g1), (fun g1 => by cases g1), (fun g1 => by cases g1), (fun g1 => by cases g1), (fun g1 => by cases g1), (fun g1 => by cases g1)⟩
      · match i, hi with
        | 0, _ =>
          intro o ho l xs w1 hl hx hG hi hdep K hK
          obtain rfl := Option.some.inj (ho.symm.trans rfl)
          clear ho
          obtain ⟨l0, l1, l2, l3, l4, l5, l6, l7, l8, l9, rfl⟩ := SL_b l hl
          obtain ⟨x0, x1, x2, x3, x4, x5, x6, x7, x8, x9, rfl⟩ := SL_v xs hx
          obtain rfl : l0 = false := hi
          clear hdep hl hx
          dsimp only [setAll, List.set_cons_zero, List.set_cons_succ] at hK ⊢
          go_simp
          refine hK.out _ _ ?_
          clear hK K
          have hC := SL_get w wS.drew a h np q (k : Int) A Al nA cA lift.length cl (rowsB a h bs) P hG
          cases hC
          rename_i SD ez1
          cases ez1
          rename_i h0 ez2
          cases ez2
          rename_i h1 ez3
          cases ez3
          rename_i h2 ez4
          cases ez4
          rename_i h3 ez5
          cases ez5
          rename_i h4 ez6
          cases ez6
          rename_i h5 ez7
          cases ez7
          rename_i h6 ez8
          cases ez8
          rename_i h7 ez9
          cases ez9
          rename_i h8 h9
          refine SL_mk w wS.drew a h np q (k : Int) A Al nA cA lift.length cl (rowsB a h bs) P ?_
          exact ⟨SD, (fun g1 => rfl), h1, h2, h3, h4, h5, h6, h7, h8, h9⟩
        | 1, _ =>
          intro o ho l xs w1 hl hx hG hi hdep K hK
          obtain rfl := Option.some.inj (ho.symm.trans rfl)
          clear ho
          obtain ⟨l0, l1, l2, l3, l4, l5, l6, l7, l8, l9, rfl⟩ := SL_b l hl
          obtain ⟨x0, x1, x2, x3, x4, x5, x6, x7, x8, x9, rfl⟩ := SL_v xs hx
          obtain rfl : l1 = false := hi
          obtain rfl : l0 = true := hdep 0 (by kernel_rfl)
          clear hdep hl hx
          dsimp only [setAll, List.set_cons_zero, List.set_cons_succ] at hK ⊢
          have hf := SL_get w wS.drew a h np q (k : Int) A Al nA cA lift.length cl (rowsB a h bs) P hG
          have hF0 := (hf.2.1 rfl)
          have SX := SD1.out _ hf.1
          clear hf
          subst hF0
          have hE10 := (SX.blk 0 rfl).cell3
          cases hE10
          rename_i c0 ez11
          cases ez11
          rename_i c1 c2
          have hE12 := (SX.blk 1 rfl).cell2
          cases hE12
          rename_i d0 d1
          go_simp
          refine hK.out _ _ ?_
          clear hK K
          have hC := SL_get w wS.drew a h np q (k : Int) A Al nA cA lift.length cl (rowsB a h bs) P hG
          cases hC
          rename_i SD ez13
          cases ez13
          rename_i h0 ez14
          cases ez14
          rename_i h1 ez15
          cases ez15
          rename_i h2 ez16
          cases ez16
          rename_i h3 ez17
          cases ez17
          rename_i h4 ez18
          cases ez18
          rename_i h5 ez19
          cases ez19
          rename_i h6 ez20
          cases ez20
          rename_i h7 ez21
          cases ez21
          rename_i h8 h9
          refine SL_mk w wS.drew a h np q (k : Int) A Al nA cA lift.length cl (rowsB a h bs) P ?_
          exact ⟨SD, h0, (fun g1 => rfl), h2, h3, h4, h5, h6, h7, h8, h9⟩
        | 2, _ =>
          intro o ho l xs w1 hl hx hG hi hdep K hK
          obtain rfl := Option.some.inj (ho.symm.trans rfl)
          clear ho
          obtain ⟨l0, l1, l2, l3, l4, l5, l6, l7, l8, l9, rfl⟩ := SL_b l hl
          obtain ⟨x0, x1, x2, x3, x4, x5, x6, x7, x8, x9, rfl⟩ := SL_v xs hx
          obtain rfl : l2 = false := hi
          clear hdep hl hx
          dsimp only [setAll, List.set_cons_zero, List.set_cons_succ] at hK ⊢
          have hf := SL_get w wS.drew a h np q (k : Int) A Al nA cA lift.length cl (rowsB a h bs) P hG
          have SX := SD1.out _ hf.1
          clear hf
          have hE22 := (SX.blk 0 rfl).cell3
          cases hE22
          rename_i c0 ez23
          cases ez23
          rename_i c1 c2
          have hE24 := (SX.blk 1 rfl).cell2
          cases hE24
          rename_i d0 d1
          go_simp
          refine hK.out _ _ ?_
          clear hK K
          have hC := SL_get w wS.drew a h np q (k : Int) A Al nA cA lift.length cl (rowsB a h bs) P hG
          cases hC
          rename_i SD ez25
          cases ez25
          rename_i h0 ez26
          cases ez26
          rename_i h1 ez27
          cases ez27
          rename_i h2 ez28
          cases ez28
          rename_i h3 ez29
          cases ez29
          rename_i h4 ez30
          cases ez30
          rename_i h5 ez31
          cases ez31
          rename_i h6 ez32
          cases ez32
          rename_i h7 ez33
          cases ez33
          rename_i h8 h9
          refine SL_mk w wS.drew a h np q (k : Int) A Al nA cA lift.length cl (rowsB a h bs) P ?_
          exact ⟨SD, h0, h1, (fun g1 => rfl), h3, h4, h5, h6, h7, h8, h9⟩
        | 3, _ =>
          intro o ho l xs w1 hl hx hG hi hdep K hK
          obtain rfl := Option.some.inj (ho.symm.trans rfl)
          clear ho
          obtain ⟨l0, l1, l2, l3, l4, l5, l6, l7, l8, l9, rfl⟩ := SL_b l hl
          obtain ⟨x0, x1, x2, x3, x4, x5, x6, x7, x8, x9, rfl⟩ := SL_v xs hx
          obtain rfl : l3 = false := hi
          obtain rfl : l2 = true := hdep 2 (by kernel_rfl)
          clear hdep hl hx
          dsimp only [setAll, List.set_cons_zero, List.set_cons_succ] at hK ⊢
          have hf := SL_get w wS.drew a h np q (k : Int) A Al nA cA lift.length cl (rowsB a h bs) P hG
          have hF0 := (hf.2.2.2.1 rfl)
          have SX := SD1.out _ hf.1
          clear hf
          subst hF0
          go_simp
          refine (HPK.out _ SX.below).mono ?_
          rintro e wz ⟨A', c', rfl, hlr, hbz⟩
          try go_simp
          refine hK.out _ _ ?_
          clear hK K
          have hC := SL_get w wS.drew a h np q (k : Int) A Al nA cA lift.length cl (rowsB a h bs) P hG
          cases hC
          rename_i SD ez34
          cases ez34
          rename_i h0 ez35
          cases ez35
          rename_i h1 ez36
          cases ez36
          rename_i h2 ez37
          cases ez37
          rename_i h3 ez38
          cases ez38
          rename_i h4 ez39
          cases ez39
          rename_i h5 ez40
          cases ez40
          rename_i h6 ez41
          cases ez41
          rename_i h7 ez42
          cases ez42
          rename_i h8 h9
          have hb := hbz
          refine SL_mk w wS.drew a h np q (k : Int) A Al nA cA lift.length cl (rowsB a h bs) P ?_
          exact ⟨below_then SD hb, (fun g1 => by obtain e := h0 g1; exact e), (fun g1 => by obtain e := h1 g1; exact e), (fun g1 => by obtain e := h2 g1; exact e), (fun g1 g2 => ⟨_, _, rfl, hlr⟩), (fun g1 => by obtain e := h4 g1; exact e), (fun g1 => by obtain e := h5 g1; exact e), (fun g1 g2 => by obtain ⟨A', c', e, lr⟩ := h6 g1 g2; exact ⟨A', c', e, lr.below hb⟩), (fun g1 g2 => by obtain ⟨A', m, c', e, o⟩ := h7 g1 g2; exact ⟨A', m, c', e, own_below o hb⟩), (fun g1 g2 => by obtain ⟨g, e, b, l⟩ := h8 g1 g2; exact ⟨g, e, b.keep hb, l⟩), (fun g1 => by obtain ⟨⟨f6, f7, f8⟩, g, A', m, c', e, b, l, o⟩ := h9 g1; exact ⟨⟨f6, f7, f8⟩, g, A', m, c', e, b.keep hb, l, own_below o hb⟩)⟩
        | 4, _ =>
          intro o ho l xs w1 hl hx hG hi hdep K hK
          obtain rfl := Option.some.inj (ho.symm.trans rfl)
          clear ho
          obtain ⟨l0, l1, l2, l3, l4, l5, l6, l7, l8, l9, rfl⟩ := SL_b l hl
          obtain ⟨x0, x1, x2, x3, x4, x5, x6, x7, x8, x9, rfl⟩ := SL_v xs hx
          obtain rfl : l4 = false := hi
          clear hdep hl hx
          dsimp only [setAll, List.set_cons_zero, List.set_cons_succ] at hK ⊢
          have hf := SL_get w wS.drew a h np q (k : Int) A Al nA cA lift.length cl (rowsB a h bs) P hG
          have SX := SD1.out _ hf.1
          clear hf
          have hE43 := (SX.blk 0 rfl).cell3
          cases hE43
          rename_i c0 ez44
          cases ez44
          rename_i c1 c2
          have hE45 := (SX.blk 1 rfl).cell2
          cases hE45
          rename_i d0 d1
          go_simp
          refine hK.out _ _ ?_
          clear hK K
          have hC := SL_get w wS.drew a h np q (k : Int) A Al nA cA lift.length cl (rowsB a h bs) P hG
          cases hC
          rename_i SD ez46
          cases ez46
          rename_i h0 ez47
          cases ez47
          rename_i h1 ez48
          cases ez48
          rename_i h2 ez49
          cases ez49
          rename_i h3 ez50
          cases ez50
          rename_i h4 ez51
          cases ez51
          rename_i h5 ez52
          cases ez52
          rename_i h6 ez53
          cases ez53
          rename_i h7 ez54
          cases ez54
          rename_i h8 h9
          refine SL_mk w wS.drew a h np q (k : Int) A Al nA cA lift.length cl (rowsB a h bs) P ?_
          exact ⟨SD, h0, h1, h2, h3, (fun g1 => rfl), h5, h6, h7, h8, h9⟩
        | 5, _ =>
          intro o ho l xs w1 hl hx hG hi hdep K hK
          obtain rfl := Option.some.inj (ho.symm.trans rfl)
          clear ho
          obtain ⟨l0, l1, l2, l3, l4, l5, l6, l7, l8, l9, rfl⟩ := SL_b l hl
          obtain ⟨x0, x1, x2, x3, x4, x5, x6, x7, x8, x9, rfl⟩ := SL_v xs hx
          obtain rfl : l5 = false := hi
          clear hdep hl hx
          dsimp only [setAll, List.set_cons_zero, List.set_cons_succ] at hK ⊢
          go_simp
          refine hK.out _ _ ?_
          clear hK K
          have hC := SL_get w wS.drew a h np q (k : Int) A Al nA cA lift.length cl (rowsB a h bs) P hG
          cases hC
          rename_i SD ez55
          cases ez55
          rename_i h0 ez56
          cases ez56
          rename_i h1 ez57
          cases ez57
          rename_i h2 ez58
          cases ez58
          rename_i h3 ez59
          cases ez59
          rename_i h4 ez60
          cases ez60
          rename_i h5 ez61
          cases ez61
          rename_i h6 ez62
          cases ez62
          rename_i h7 ez63
          cases ez63
          rename_i h8 h9
          refine SL_mk w wS.drew a h np q (k : Int) A Al nA cA lift.length cl (rowsB a h bs) P ?_
          exact ⟨SD, h0, h1, h2, h3, h4, (fun g1 => rfl), h6, h7, h8, h9⟩
        | 6, _ =>
          intro o ho l xs w1 hl hx hG hi hdep K hK
          obtain rfl := Option.some.inj (ho.symm.trans rfl)
          clear ho
          obtain ⟨l0, l1, l2, l3, l4, l5, l6, l7, l8, l9, rfl⟩ := SL_b l hl
          obtain ⟨x0, x1, x2, x3, x4, x5, x6, x7, x8, x9, rfl⟩ := SL_v xs hx
          obtain rfl : l6 = false := hi
          obtain rfl : l3 = true := hdep 3 (by kernel_rfl)
          obtain rfl : l4 = true := hdep 4 (by kernel_rfl)
          obtain rfl : l5 = true := hdep 5 (by kernel_rfl)
          clear hdep hl hx
          dsimp only [setAll, List.set_cons_zero, List.set_cons_succ] at hK ⊢
          have hf := SL_get w wS.drew a h np q (k : Int) A Al nA cA lift.length cl (rowsB a h bs) P hG
          have hl9 : l9 = false := by
            cases l9 with
            | false => rfl
            | true => exact absurd (hf.2.2.2.2.2.2.2.2.2.2 rfl).1.1 (by decide)
          subst hl9
          have hF5 := (hf.2.2.2.2.1 rfl rfl)
          have hF6 := (hf.2.2.2.2.2.1 rfl)
          have hF7 := (hf.2.2.2.2.2.2.1 rfl)
          have SX := SD1.out _ hf.1
          clear hf
          cases hF5
          rename_i A' ez64
          cases ez64
          rename_i c' ez65
          cases ez65
          rename_i ez66 lr
          subst ez66
          subst hF6
          subst hF7
          go_simp
          refine (HSP.out _ A' c' SX.below lr).mono ?_
          rintro e wz ⟨A2, c2, rfl, hlr2, hbz⟩
          try go_simp
          refine hK.out _ _ ?_
          clear hK K
          have hC := SL_get w wS.drew a h np q (k : Int) A Al nA cA lift.length cl (rowsB a h bs) P hG
          cases hC
          rename_i SD ez67
          cases ez67
          rename_i h0 ez68
          cases ez68
          rename_i h1 ez69
          cases ez69
          rename_i h2 ez70
          cases ez70
          rename_i h3 ez71
          cases ez71
          rename_i h4 ez72
          cases ez72
          rename_i h5 ez73
          cases ez73
          rename_i h6 ez74
          cases ez74
          rename_i h7 ez75
          cases ez75
          rename_i h8 h9
          have hb := hbz
          refine SL_mk w wS.drew a h np q (k : Int) A Al nA cA lift.length cl (rowsB a h bs) P ?_
          exact ⟨below_then SD hb, (fun g1 => by obtain e := h0 g1; exact e), (fun g1 => by obtain e := h1 g1; exact e), (fun g1 => by obtain e := h2 g1; exact e), (fun g1 g2 => by obtain ⟨A', c', e, lr⟩ := h3 g1 g2; exact ⟨A', c', e, lr.below hb⟩), (fun g1 => by obtain e := h4 g1; exact e), (fun g1 => by obtain e := h5 g1; exact e), (fun g1 g2 => ⟨_, _, rfl, hlr2⟩), (fun g1 g2 => by obtain ⟨A', m, c', e, o⟩ := h7 g1 g2; exact ⟨A', m, c', e, own_below o hb⟩), (fun g1 g2 => by obtain ⟨g, e, b, l⟩ := h8 g1 g2; exact ⟨g, e, b.keep hb, l⟩), (fun g1 => by obtain ⟨⟨f6, f7, f8⟩, g, A', m, c', e, b, l, o⟩ := h9 g1; cases f6)⟩
        | 7, _ =>
          intro o ho l xs w1 hl hx hG hi hdep K hK
          obtain rfl := Option.some.inj (ho.symm.trans rfl)
          clear ho
          obtain ⟨l0, l1, l2, l3, l4, l5, l6, l7, l8, l9, rfl⟩ := SL_b l hl
          obtain ⟨x0, x1, x2, x3, x4, x5, x6, x7, x8, x9, rfl⟩ := SL_v xs hx
          obtain rfl : l7 = false := hi
          obtain rfl : l1 = true := hdep 1 (by kernel_rfl)
          obtain rfl : l6 = true := hdep 6 (by kernel_rfl)
          clear hdep hl hx
          dsimp only [setAll, List.set_cons_zero, List.set_cons_succ] at hK ⊢
          have hf := SL_get w wS.drew a h np q (k : Int) A Al nA cA lift.length cl (rowsB a h bs) P hG
          have hl9 : l9 = false := by
            cases l9 with
            | false => rfl
            | true => exact absurd (hf.2.2.2.2.2.2.2.2.2.2 rfl).1.2.1 (by decide)
          subst hl9
          have hF5 := (hf.2.2.1 rfl)
          have hF6 := (hf.2.2.2.2.2.2.2.1 rfl rfl)
          have SX := SD1.out _ hf.1
          clear hf
          subst hF5
          cases hF6
          rename_i A' ez76
          cases ez76
          rename_i c' ez77
          cases ez77
          rename_i ez78 lr
          subst ez78
          go_simp
          refine (HLF.out _ A' c' lr).mono ?_
          rintro e wz ⟨A2, m2, c2, rfl, hown7, hbz⟩
          try go_simp
          refine hK.out _ _ ?_
          clear hK K
          have hC := SL_get w wS.drew a h np q (k : Int) A Al nA cA lift.length cl (rowsB a h bs) P hG
          cases hC
          rename_i SD ez79
          cases ez79
          rename_i h0 ez80
          cases ez80
          rename_i h1 ez81
          cases ez81
          rename_i h2 ez82
          cases ez82
          rename_i h3 ez83
          cases ez83
          rename_i h4 ez84
          cases ez84
          rename_i h5 ez85
          cases ez85
          rename_i h6 ez86
          cases ez86
          rename_i h7 ez87
          cases ez87
          rename_i h8 h9
          have hb := hbz
          refine SL_mk w wS.drew a h np q (k : Int) A Al nA cA lift.length cl (rowsB a h bs) P ?_
          exact ⟨below_then SD hb, (fun g1 => by obtain e := h0 g1; exact e), (fun g1 => by obtain e := h1 g1; exact e), (fun g1 => by obtain e := h2 g1; exact e), (fun g1 g2 => by obtain ⟨A', c', e, lr⟩ := h3 g1 g2; exact ⟨A', c', e, lr.below hb⟩), (fun g1 => by obtain e := h4 g1; exact e), (fun g1 => by obtain e := h5 g1; exact e), (fun g1 g2 => by obtain ⟨A', c', e, lr⟩ := h6 g1 g2; exact ⟨A', c', e, lr.below hb⟩), (fun g1 g2 => ⟨_, _, _, rfl, own_base hown7 SX.size⟩), (fun g1 g2 => by obtain ⟨g, e, b, l⟩ := h8 g1 g2; exact ⟨g, e, b.keep hb, l⟩), (fun g1 => by obtain ⟨⟨f6, f7, f8⟩, g, A', m, c', e, b, l, o⟩ := h9 g1; cases f7)⟩
        | 8, _ =>
          intro o ho l xs w1 hl hx hG hi hdep K hK
          obtain rfl := Option.some.inj (ho.symm.trans rfl)
          clear ho
          obtain ⟨l0, l1, l2, l3, l4, l5, l6, l7, l8, l9, rfl⟩ := SL_b l hl
          obtain ⟨x0, x1, x2, x3, x4, x5, x6, x7, x8, x9, rfl⟩ := SL_v xs hx
          obtain rfl : l8 = false := hi
          clear hdep hl hx
          dsimp only [setAll, List.set_cons_zero, List.set_cons_succ] at hK ⊢
          have hf := SL_get w wS.drew a h np q (k : Int) A Al nA cA lift.length cl (rowsB a h bs) P hG
          have hsz := hf.1.size
          clear hf
          go_simp
          refine hK.out _ _ ?_
          clear hK K
          have hC := SL_get w wS.drew a h np q (k : Int) A Al nA cA lift.length cl (rowsB a h bs) P hG
          cases hC
          rename_i SD ez88
          cases ez88
          rename_i h0 ez89
          cases ez89
          rename_i h1 ez90
          cases ez90
          rename_i h2 ez91
          cases ez91
          rename_i h3 ez92
          cases ez92
          rename_i h4 ez93
          cases ez93
          rename_i h5 ez94
          cases ez94
          rename_i h6 ez95
          cases ez95
          rename_i h7 ez96
          cases ez96
          rename_i h8 h9
          have hb := fun ob => (Below.refl w1.heap.size w1).alloc (Nat.le_refl _) ob
          refine SL_mk w wS.drew a h np q (k : Int) A Al nA cA lift.length cl (rowsB a h bs) P ?_
          exact ⟨below_then SD (hb _), (fun g1 => by obtain e := h0 g1; exact e), (fun g1 => by obtain e := h1 g1; exact e), (fun g1 => by obtain e := h2 g1; exact e), (fun g1 g2 => by obtain ⟨A', c', e, lr⟩ := h3 g1 g2; exact ⟨A', c', e, lr.below (hb _)⟩), (fun g1 => by obtain e := h4 g1; exact e), (fun g1 => by obtain e := h5 g1; exact e), (fun g1 g2 => by obtain ⟨A', c', e, lr⟩ := h6 g1 g2; exact ⟨A', c', e, lr.below (hb _)⟩), (fun g1 g2 => by obtain ⟨A', m, c', e, o⟩ := h7 g1 g2; exact ⟨A', m, c', e, own_below o (hb _)⟩), (fun g1 g2 => ⟨_, rfl, Blk.new _ _ _, hsz⟩), (fun g1 => by obtain ⟨⟨f6, f7, f8⟩, g, A', m, c', e, b, l, o⟩ := h9 g1; cases f8)⟩
        | 9, _ =>
          intro o ho l xs w1 hl hx hG hi hdep K hK
          obtain rfl := Option.some.inj (ho.symm.trans rfl)
          clear ho
          obtain ⟨l0, l1, l2, l3, l4, l5, l6, l7, l8, l9, rfl⟩ := SL_b l hl
          obtain ⟨x0, x1, x2, x3, x4, x5, x6, x7, x8, x9, rfl⟩ := SL_v xs hx
          obtain rfl : l9 = false := hi
          obtain rfl : l8 = true := hdep 8 (by kernel_rfl)
          obtain rfl : l7 = true := hdep 7 (by kernel_rfl)
          obtain rfl : l0 = true := hdep 0 (by kernel_rfl)
          obtain rfl : l1 = true := hdep 1 (by kernel_rfl)
          obtain rfl : l2 = true := hdep 2 (by kernel_rfl)
          obtain rfl : l3 = true := hdep 3 (by kernel_rfl)
          obtain rfl : l4 = true := hdep 4 (by kernel_rfl)
          obtain rfl : l5 = true := hdep 5 (by kernel_rfl)
          obtain rfl : l6 = true := hdep 6 (by kernel_rfl)
          clear hdep hl hx
          dsimp only [setAll, List.set_cons_zero, List.set_cons_succ] at hK ⊢
          have hf := SL_get w wS.drew a h np q (k : Int) A Al nA cA lift.length cl (rowsB a h bs) P hG
          have hF0 := (hf.2.2.2.2.2.2.2.2.2.1 rfl rfl)
          have hF1 := (hf.2.2.2.2.2.2.2.2.1 rfl rfl)
          clear hf
          cases hF0
          rename_i g ez97
          cases ez97
          rename_i ez98 ez99
          cases ez99
          rename_i hbg hlg
          subst ez98
          cases hF1
          rename_i A' ez100
          cases ez100
          rename_i m ez101
          cases ez101
          rename_i c' ez102
          cases ez102
          rename_i ez103 hown
          subst ez103
          have hE104 := hbg.cell3
          cases hE104
          rename_i c0 ez105
          cases ez105
          rename_i c1 c2
          have hE106 := hbg.frozen3
          cases hE106
          rename_i f0 ez107
          cases ez107
          rename_i f1 f2
          have hlt := hbg.lt
          go_simp
          refine hK.out undef _ ?_
          clear hK K
          have hC := SL_get w wS.drew a h np q (k : Int) A Al nA cA lift.length cl (rowsB a h bs) P hG
          cases hC
          rename_i SD ez108
          cases ez108
          rename_i h0 ez109
          cases ez109
          rename_i h1 ez110
          cases ez110
          rename_i h2 ez111
          cases ez111
          rename_i h3 ez112
          cases ez112
          rename_i h4 ez113
          cases ez113
          rename_i h5 ez114
          cases ez114
          rename_i h6 ez115
          cases ez115
          rename_i h7 ez116
          cases ez116
          rename_i h8 h9
          refine SL_mk w wS.drew a h np q (k : Int) A Al nA cA lift.length cl (rowsB a h bs) P ?_
          exact ⟨below_set3 SD hlg _ _ _, h0, h1, h2, (fun _ g2 => by cases g2), h4, h5, (fun _ g2 => by cases g2), (fun _ g2 => by cases g2), (fun _ g2 => by cases g2), (fun g1 => ⟨⟨rfl, rfl, rfl⟩, g, A', m, c', rfl, hbg.set3 _ _ _, hlg, own_set3 hown hbg (by decide) _ _ _⟩)⟩
        | k + 10, h => exact absurd h (by omega)
      · obtain ⟨x0, x1, x2, x3, x4, x5, x6, x7, x8, x9, rfl⟩ := SL_v xs hx
        have hG : SL w wS.drew a h np q (k : Int) A Al nA cA lift.length cl (rowsB a h bs) P [true, true, true, true, true, true, true, true, true, true] [x0, x1, x2, x3, x4, x5, x6, x7, x8, x9] wf := hG
        have hf := SL_get w wS.drew a h np q (k : Int) A Al nA cA lift.length cl (rowsB a h bs) P hG
        have hF0 := (hf.2.2.2.2.2.2.2.2.2.2 rfl)
        have hbf := hf.1
        clear hf
        cases hF0
        rename_i _ ez117
        cases ez117
        rename_i g ez118
        cases ez118
        rename_i Ag ez119
        cases ez119
        rename_i mg ez120
        cases ez120
        rename_i cg ez121
        cases ez121
        rename_i ez122 ez123
        cases ez123
        rename_i hbg ez124
        cases ez124
        rename_i hlg hown
        subst ez122
        clear hG hx
        dsimp only [setAll, List.set_cons_zero, List.set_cons_succ]
        have S2 := SD1.out _ hbf
        have hmg : mg = FL := by have h1 := hown.1; rw [List.length_map, HFL.out] at h1; omega
        subst hmg
        have HPC := Lib.hid (fun u => pcheck_any a np Ag mg cg u)
        obtain ⟨c0, c1, c2⟩ := hbg.cell3
        by_cases hk3 : chkP a np mg = 0
        · have hkb3 : (chkP a np mg != 0) = false := by simpa using hk3
          have HXX := Lib.hid (HX5.out.2 hk3)
          generalize chkP a np mg = K3 at *
          go_wp2_with fail
          refine (HPC.out _).mono ?_
          rintro e w5 ⟨rfl, hb5⟩
          have S5 := S2.keep hb5
          have hbg5 := hbg.keep hb5
          have hown5 := own_below hown hb5
          clear c0 c1 c2
          obtain ⟨c0, c1, c2⟩ := hbg5.cell3
          obtain ⟨r0, r1, r2⟩ := (S5.blk 2 rfl).cell3
          obtain ⟨f0, f1, f2⟩ := (S5.blk 2 rfl).frozen3
          obtain ⟨q0, q1, q2⟩ := ((S5.blk 2 rfl).set3 (.int .i64 a) (.int .i64 np) (.slice Ag mg cg)).cell3
          go_wp2_with fail
          refine bodyPost_ret (v := .tuple #[.agg #[.int .i64 a, .int .i64 np, .slice Ag mg cg], .int .i64 0]) (by simp [results, Try.results25, go_sem, q0, q1, q2]) rfl ?_
          rw [HXX.out]
          exact ⟨Ag, _, cg, by rw [← HNP.out]; rfl, own_set3 hown5 (S5.blk 2 rfl) (by decide) _ _ _, below_set3 S5.below (by omega) _ _ _⟩
        · have hkb3 : (chkP a np mg != 0) = true := by simpa using hk3
          have HXX := Lib.hid (HX5.out.1 hk3)
          generalize chkP a np mg = K3 at *
          go_wp2_with fail
          refine (HPC.out _).mono ?_
          rintro e w5 ⟨rfl, hb5⟩
          have S5 := S2.keep hb5
          clear c0 c1 c2
          obtain ⟨r0, r1, r2⟩ := (S5.blk 2 rfl).cell3
          obtain ⟨f0, f1, f2⟩ := (S5.blk 2 rfl).frozen3
          obtain ⟨q0, q1, q2⟩ := ((S5.blk 2 rfl).set3 (.int .i64 0) (.int .i64 0) (.slice none 0 0)).cell3
          go_wp2_with fail
          refine bodyPost_ret (v := .tuple #[.agg #[.int .i64 0, .int .i64 0, .slice none 0 0], .int .i64 K3]) (by simp [results, Try.results25, go_sem, q0, q1, q2]) rfl ?_
          rw [HXX.out]
          exact ⟨none, 0, 0, rfl, World.ownsRow_nil _ _ _ _, below_set3 S5.below (by omega) _ _ _⟩
    · obtain ⟨hq3', hlb⟩ := hc
      have hb0 : (q == 0) = false := by simp; omega
      have hb3 : (q == 3) = true := by simpa using hq3'
      clear hq3'
      go_enter Try.func25, Try.ntmps25
      go_wp2_with fail
      refine (HP.out _).mono ?_
      rintro e wS ⟨rfl, hb1⟩
      have S1 := S0.keep hb1
      clear c0 c1 c2 d0 d1
      obtain ⟨c0, c1, c2⟩ := (S1.blk 0 rfl).cell3
      obtain ⟨d0, d1⟩ := (S1.blk 1 rfl).cell2
      go_wp2_with fail
      have SD1 := Lib.hid (fun u (hu : Below wS.drew.heap.size wS.drew u) => show St w [Fact.blk _ _ _, Fact.blk _ _ _, Fact.blk _ _ _] u from S1.drew.keep hu)
      clear c0 c1 c2 d0 d1
      refine wp_region_invL 10 [some 53, some 54, some 55, some 56, some 57, some 58, some 59, some 60, some 9, none] (SL w wS.drew a h np q (k : Int) A Al nA cA lift.length cl (rowsB a h bs) P) (by kernel_rfl) rfl rfl (by decide) (by kernel_rfl) (fun xs hx => ?_) (fun i hi => ?_) (fun xs wf hx hG => ?_)
      · obtain ⟨x0, x1, x2, x3, x4, x5, x6, x7, x8, x9, rfl⟩ := SL_v xs hx
        show SL w wS.drew a h np q (k : Int) A Al nA cA lift.length cl (rowsB a h bs) P [false, false, false, false, false, false, false, false, false, false] [x0, x1, x2, x3, x4, x5, x6, x7, x8, x9] _
        refine SL_mk w wS.drew a h np q (k : Int) A Al nA cA lift.length cl (rowsB a h bs) P ?_
        exact ⟨Below.refl _ _, (fun g1 => by cases g1), (fun g1 => by cases g1), (fun g1 => by cases g1), (fun g1 => by cases g1), (fun g1 => by cases g1), (fun g1 => by cases g1), (fun g1 => by cases g1), (fun g1 => by cases g1), (fun g1 => by cases g1), (fun g1 => by cases g1)⟩
      · match i, hi with
        | 0, _ =>
          intro o ho l xs w1 hl hx hG hi hdep K hK
          obtain rfl := Option.some.inj (ho.symm.trans rfl)
          clear ho
          obtain ⟨l0, l1, l2, l3, l4, l5, l6, l7, l8, l9, rfl⟩ := SL_b l hl
          obtain ⟨x0, x1, x2, x3, x4, x5, x6, x7, x8, x9, rfl⟩ := SL_v xs hx
          obtain rfl : l0 = false := hi
          clear hdep hl hx
          dsimp only [setAll, List.set_cons_zero, List.set_cons_succ] at hK ⊢
          go_simp
          refine hK.out _ _ ?_
          clear hK K
          have hC := SL_get w wS.drew a h np q (k : Int) A Al nA cA lift.length cl (rowsB a h bs) P hG
          cases hC
          rename_i SD ez1
          cases ez1
          rename_i h0 ez2
          cases ez2
          rename_i h1 ez3
          cases ez3
          rename_i h2 ez4
          cases ez4
          rename_i h3 ez5
          cases ez5
          rename_i h4 ez6
          cases ez6
          rename_i h5 ez7
          cases ez7
          rename_i h6 ez8
          cases ez8
          rename_i h7 ez9
          cases ez9
          rename_i h8 h9
          refine SL_mk w wS.drew a h np q (k : Int) A Al nA cA lift.length cl (rowsB a h bs) P ?_
          exact ⟨SD, (fun g1 => rfl), h1, h2, h3, h4, h5, h6, h7, h8, h9⟩
        | 1, _ =>
          intro o ho l xs w1 hl hx hG hi hdep K hK
          obtain rfl := Option.some.inj (ho.symm.trans rfl)
          clear ho
          obtain ⟨l0, l1, l2, l3, l4, l5, l6, l7, l8, l9, rfl⟩ := SL_b l hl
          obtain ⟨x0, x1, x2, x3, x4, x5, x6, x7, x8, x9, rfl⟩ := SL_v xs hx
          obtain rfl : l1 = false := hi
          obtain rfl : l0 = true := hdep 0 (by kernel_rfl)
          clear hdep hl hx
          dsimp only [setAll, List.set_cons_zero, List.set_cons_succ] at hK ⊢
          have hf := SL_get w wS.drew a h np q (k : Int) A Al nA cA lift.length cl (rowsB a h bs) P hG
          have hF0 := (hf.2.1 rfl)
          have SX := SD1.out _ hf.1
          clear hf
          subst hF0
          have hE10 := (SX.blk 0 rfl).cell3
          cases hE10
          rename_i c0 ez11
          cases ez11
          rename_i c1 c2
          have hE12 := (SX.blk 1 rfl).cell2
          cases hE12
          rename_i d0 d1
          go_simp
          refine hK.out _ _ ?_
          clear hK K
          have hC := SL_get w wS.drew a h np q (k : Int) A Al nA cA lift.length cl (rowsB a h bs) P hG
          cases hC
          rename_i SD ez13
          cases ez13
          rename_i h0 ez14
          cases ez14
          rename_i h1 ez15
          cases ez15
          rename_i h2 ez16
          cases ez16
          rename_i h3 ez17
          cases ez17
          rename_i h4 ez18
          cases ez18
          rename_i h5 ez19
          cases ez19
          rename_i h6 ez20
          cases ez20
          rename_i h7 ez21
          cases ez21
          rename_i h8 h9
          refine SL_mk w wS.drew a h np q (k : Int) A Al nA cA lift.length cl (rowsB a h bs) P ?_
          exact ⟨SD, h0, (fun g1 => rfl), h2, h3, h4, h5, h6, h7, h8, h9⟩
        | 2, _ =>
          intro o ho l xs w1 hl hx hG hi hdep K hK
          obtain rfl := Option.some.inj (ho.symm.trans rfl)
          clear ho
          obtain ⟨l0, l1, l2, l3, l4, l5, l6, l7, l8, l9, rfl⟩ := SL_b l hl
          obtain ⟨x0, x1, x2, x3, x4, x5, x6, x7, x8, x9, rfl⟩ := SL_v xs hx
          obtain rfl : l2 = false := hi
          clear hdep hl hx
          dsimp only [setAll, List.set_cons_zero, List.set_cons_succ] at hK ⊢
          have hf := SL_get w wS.drew a h np q (k : Int) A Al nA cA lift.length cl (rowsB a h bs) P hG
          have SX := SD1.out _ hf.1
          clear hf
          have hE22 := (SX.blk 0 rfl).cell3
          cases hE22
          rename_i c0 ez23
          cases ez23
          rename_i c1 c2
          have hE24 := (SX.blk 1 rfl).cell2
          cases hE24
          rename_i d0 d1
          go_simp
          refine hK.out _ _ ?_
          clear hK K
          have hC := SL_get w wS.drew a h np q (k : Int) A Al nA cA lift.length cl (rowsB a h bs) P hG
          cases hC
          rename_i SD ez25
          cases ez25
          rename_i h0 ez26
          cases ez26
          rename_i h1 ez27
          cases ez27
          rename_i h2 ez28
          cases ez28
          rename_i h3 ez29
          cases ez29
          rename_i h4 ez30
          cases ez30
          rename_i h5 ez31
          cases ez31
          rename_i h6 ez32
          cases ez32
          rename_i h7 ez33
          cases ez33
          rename_i h8 h9
          refine SL_mk w wS.drew a h np q (k : Int) A Al nA cA lift.length cl (rowsB a h bs) P ?_
          exact ⟨SD, h0, h1, (fun g1 => rfl), h3, h4, h5, h6, h7, h8, h9⟩
        | 3, _ =>
          intro o ho l xs w1 hl hx hG hi hdep K hK
          obtain rfl := Option.some.inj (ho.symm.trans rfl)
          clear ho
          obtain ⟨l0, l1, l2, l3, l4, l5, l6, l7, l8, l9, rfl⟩ := SL_b l hl
          obtain ⟨x0, x1, x2, x3, x4, x5, x6, x7, x8, x9, rfl⟩ := SL_v xs hx
          obtain rfl : l3 = false := hi
          obtain rfl : l2 = true := hdep 2 (by kernel_rfl)
          clear hdep hl hx
          dsimp only [setAll, List.set_cons_zero, List.set_cons_succ] at hK ⊢
          have hf := SL_get w wS.drew a h np q (k : Int) A Al nA cA lift.length cl (rowsB a h bs) P hG
          have hF0 := (hf.2.2.2.1 rfl)
          have SX := SD1.out _ hf.1
          clear hf
          subst hF0
          go_simp
          refine (HPK.out _ SX.below).mono ?_
          rintro e wz ⟨A', c', rfl, hlr, hbz⟩
          try go_simp
          refine hK.out _ _ ?_
          clear hK K
          have hC := SL_get w wS.drew a h np q (k : Int) A Al nA cA lift.length cl (rowsB a h bs) P hG
          cases hC
          rename_i SD ez34
          cases ez34
          rename_i h0 ez35
          cases ez35
          rename_i h1 ez36
          cases ez36
          rename_i h2 ez37
          cases ez37
          rename_i h3 ez38
          cases ez38
          rename_i h4 ez39
          cases ez39
          rename_i h5 ez40
          cases ez40
          rename_i h6 ez41
          cases ez41
          rename_i h7 ez42
          cases ez42
          rename_i h8 h9
          have hb := hbz
          refine SL_mk w wS.drew a h np q (k : Int) A Al nA cA lift.length cl (rowsB a h bs) P ?_
          exact ⟨below_then SD hb, (fun g1 => by obtain e := h0 g1; exact e), (fun g1 => by obtain e := h1 g1; exact e), (fun g1 => by obtain e := h2 g1; exact e), (fun g1 g2 => ⟨_, _, rfl, hlr⟩), (fun g1 => by obtain e := h4 g1; exact e), (fun g1 => by obtain e := h5 g1; exact e), (fun g1 g2 => by obtain ⟨A', c', e, lr⟩ := h6 g1 g2; exact ⟨A', c', e, lr.below hb⟩), (fun g1 g2 => by obtain ⟨A', m, c', e, o⟩ := h7 g1 g2; exact ⟨A', m, c', e, own_below o hb⟩), (fun g1 g2 => by obtain ⟨g, e, b, l⟩ := h8 g1 g2; exact ⟨g, e, b.keep hb, l⟩), (fun g1 => by obtain ⟨⟨f6, f7, f8⟩, g, A', m, c', e, b, l, o⟩ := h9 g1; exact ⟨⟨f6, f7, f8⟩, g, A', m, c', e, b.keep hb, l, own_below o hb⟩)⟩
        | 4, _ =>
          intro o ho l xs w1 hl hx hG hi hdep K hK
          obtain rfl := Option.some.inj (ho.symm.trans rfl)
          clear ho
          obtain ⟨l0, l1, l2, l3, l4, l5, l6, l7, l8, l9, rfl⟩ := SL_b l hl
          obtain ⟨x0, x1, x2, x3, x4, x5, x6, x7, x8, x9, rfl⟩ := SL_v xs hx
          obtain rfl : l4 = false := hi
          clear hdep hl hx
          dsimp only [setAll, List.set_cons_zero, List.set_cons_succ] at hK ⊢
          have hf := SL_get w wS.drew a h np q (k : Int) A Al nA cA lift.length cl (rowsB a h bs) P hG
          have SX := SD1.out _ hf.1
          clear hf
          have hE43 := (SX.blk 0 rfl).cell3
          cases hE43
          rename_i c0 ez44
          cases ez44
          rename_i c1 c2
          have hE45 := (SX.blk 1 rfl).cell2
          cases hE45
          rename_i d0 d1
          go_simp
          refine hK.out _ _ ?_
          clear hK K
          have hC := SL_get w wS.drew a h np q (k : Int) A Al nA cA lift.length cl (rowsB a h bs) P hG
          cases hC
          rename_i SD ez46
          cases ez46
          rename_i h0 ez47
          cases ez47
          rename_i h1 ez48
          cases ez48
          rename_i h2 ez49
          cases ez49
          rename_i h3 ez50
          cases ez50
          rename_i h4 ez51
          cases ez51
          rename_i h5 ez52
          cases ez52
          rename_i h6 ez53
          cases ez53
          rename_i h7 ez54
          cases ez54
          rename_i h8 h9
          refine SL_mk w wS.drew a h np q (k : Int) A Al nA cA lift.length cl (rowsB a h bs) P ?_
          exact ⟨SD, h0, h1, h2, h3, (fun g1 => rfl), h5, h6, h7, h8, h9⟩
        | 5, _ =>
          intro o ho l xs w1 hl hx hG hi hdep K hK
          obtain rfl := Option.some.inj (ho.symm.trans rfl)
          clear ho
          obtain ⟨l0, l1, l2, l3, l4, l5, l6, l7, l8, l9, rfl⟩ := SL_b l hl
          obtain ⟨x0, x1, x2, x3, x4, x5, x6, x7, x8, x9, rfl⟩ := SL_v xs hx
          obtain rfl : l5 = false := hi
          clear hdep hl hx
          dsimp only [setAll, List.set_cons_zero, List.set_cons_succ] at hK ⊢
          go_simp
          refine hK.out _ _ ?_
          clear hK K
          have hC := SL_get w wS.drew a h np q (k : Int) A Al nA cA lift.length cl (rowsB a h bs) P hG
          cases hC
          rename_i SD ez55
          cases ez55
          rename_i h0 ez56
          cases ez56
          rename_i h1 ez57
          cases ez57
          rename_i h2 ez58
          cases ez58
          rename_i h3 ez59
          cases ez59
          rename_i h4 ez60
          cases ez60
          rename_i h5 ez61
          cases ez61
          rename_i h6 ez62
          cases ez62
          rename_i h7 ez63
          cases ez63
          rename_i h8 h9
          refine SL_mk w wS.drew a h np q (k : Int) A Al nA cA lift.length cl (rowsB a h bs) P ?_
          exact ⟨SD, h0, h1, h2, h3, h4, (fun g1 => rfl), h6, h7, h8, h9⟩
        | 6, _ =>
          intro o ho l xs w1 hl hx hG hi hdep K hK
          obtain rfl := Option.some.inj (ho.symm.trans rfl)
          clear ho
          obtain ⟨l0, l1, l2, l3, l4, l5, l6, l7, l8, l9, rfl⟩ := SL_b l hl
          obtain ⟨x0, x1, x2, x3, x4, x5, x6, x7, x8, x9, rfl⟩ := SL_v xs hx
          obtain rfl : l6 = false := hi
          obtain rfl : l3 = true := hdep 3 (by kernel_rfl)
          obtain rfl : l4 = true := hdep 4 (by kernel_rfl)
          obtain rfl : l5 = true := hdep 5 (by kernel_rfl)
          clear hdep hl hx
          dsimp only [setAll, List.set_cons_zero, List.set_cons_succ] at hK ⊢
          have hf := SL_get w wS.drew a h np q (k : Int) A Al nA cA lift.length cl (rowsB a h bs) P hG
          have hl9 : l9 = false := by
            cases l9 with
            | false => rfl
            | true => exact absurd (hf.2.2.2.2.2.2.2.2.2.2 rfl).1.1 (by decide)
          subst hl9
          have hF5 := (hf.2.2.2.2.1 rfl rfl)
          have hF6 := (hf.2.2.2.2.2.1 rfl)
          have hF7 := (hf.2.2.2.2.2.2.1 rfl)
          have SX := SD1.out _ hf.1
          clear hf
          cases hF5
          rename_i A' ez64
          cases ez64
          rename_i c' ez65
          cases ez65
          rename_i ez66 lr
          subst ez66
          subst hF6
          subst hF7
          go_simp
          refine (HSP.out _ A' c' SX.below lr).mono ?_
          rintro e wz ⟨A2, c2, rfl, hlr2, hbz⟩
          try go_simp
          refine hK.out _ _ ?_
          clear hK K
          have hC := SL_get w wS.drew a h np q (k : Int) A Al nA cA lift.length cl (rowsB a h bs) P hG
          cases hC
          rename_i SD ez67
          cases ez67
          rename_i h0 ez68
          cases ez68
          rename_i h1 ez69
          cases ez69
          rename_i h2 ez70
          cases ez70
          rename_i h3 ez71
          cases ez71
          rename_i h4 ez72
          cases ez72
          rename_i h5 ez73
          cases ez73
          rename_i h6 ez74
          cases ez74
          rename_i h7 ez75
          cases ez75
          rename_i h8 h9
          have hb := hbz
          refine SL_mk w wS.drew a h np q (k : Int) A Al nA cA lift.length cl (rowsB a h bs) P ?_
          exact ⟨below_then SD hb, (fun g1 => by obtain e := h0 g1; exact e), (fun g1 => by obtain e := h1 g1; exact e), (fun g1 => by obtain e := h2 g1; exact e), (fun g1 g2 => by obtain ⟨A', c', e, lr⟩ := h3 g1 g2; exact ⟨A', c', e, lr.below hb⟩), (fun g1 => by obtain e := h4 g1; exact e), (fun g1 => by obtain e := h5 g1; exact e), (fun g1 g2 => ⟨_, _, rfl, hlr2⟩), (fun g1 g2 => by obtain ⟨A', m, c', e, o⟩ := h7 g1 g2; exact ⟨A', m, c', e, own_below o hb⟩), (fun g1 g2 => by obtain ⟨g, e, b, l⟩ := h8 g1 g2; exact ⟨g, e, b.keep hb, l⟩), (fun g1 => by obtain ⟨⟨f6, f7, f8⟩, g, A', m, c', e, b, l, o⟩ := h9 g1; cases f6)⟩
        | 7, _ =>
          intro o ho l xs w1 hl hx hG hi hdep K hK
          obtain rfl := Option.some.inj (ho.symm.trans rfl)
          clear ho
          obtain ⟨l0, l1, l2, l3, l4, l5, l6, l7, l8, l9, rfl⟩ := SL_b l hl
          obtain ⟨x0, x1, x2, x3, x4, x5, x6, x7, x8, x9, rfl⟩ := SL_v xs hx
          obtain rfl : l7 = false := hi
          obtain rfl : l1 = true := hdep 1 (by kernel_rfl)
          obtain rfl : l6 = true := hdep 6 (by kernel_rfl)
          clear hdep hl hx
          dsimp only [setAll, List.set_cons_zero, List.set_cons_succ] at hK ⊢
          have hf := SL_get w wS.drew a h np q (k : Int) A Al nA cA lift.length cl (rowsB a h bs) P hG
          have hl9 : l9 = false := by
            cases l9 with
            | false => rfl
            | true => exact absurd (hf.2.2.2.2.2.2.2.2.2.2 rfl).1.2.1 (by decide)
          subst hl9
          have hF5 := (hf.2.2.1 rfl)
          have hF6 := (hf.2.2.2.2.2.2.2.1 rfl rfl)
          have SX := SD1.out _ hf.1
          clear hf
          subst hF5
          cases hF6
          rename_i A' ez76
          cases ez76
          rename_i c' ez77
          cases ez77
          rename_i ez78 lr
          subst ez78
          go_simp
          refine (HLF.out _ A' c' lr).mono ?_
          rintro e wz ⟨A2, m2, c2, rfl, hown7, hbz⟩
          try go_simp
          refine hK.out _ _ ?_
          clear hK K
          have hC := SL_get w wS.drew a h np q (k : Int) A Al nA cA lift.length cl (rowsB a h bs) P hG
          cases hC
          rename_i SD ez79
          cases ez79
          rename_i h0 ez80
          cases ez80
          rename_i h1 ez81
          cases ez81
          rename_i h2 ez82
          cases ez82
          rename_i h3 ez83
          cases ez83
          rename_i h4 ez84
          cases ez84
          rename_i h5 ez85
          cases ez85
          rename_i h6 ez86
          cases ez86
          rename_i h7 ez87
          cases ez87
          rename_i h8 h9
          have hb := hbz
          refine SL_mk w wS.drew a h np q (k : Int) A Al nA cA lift.length cl (rowsB a h bs) P ?_
          exact ⟨below_then SD hb, (fun g1 => by obtain e := h0 g1; exact e), (fun g1 => by obtain e := h1 g1; exact e), (fun g1 => by obtain e := h2 g1; exact e), (fun g1 g2 => by obtain ⟨A', c', e, lr⟩ := h3 g1 g2; exact ⟨A', c', e, lr.below hb⟩), (fun g1 => by obtain e := h4 g1; exact e), (fun g1 => by obtain e := h5 g1; exact e), (fun g1 g2 => by obtain ⟨A', c', e, lr⟩ := h6 g1 g2; exact ⟨A', c', e, lr.below hb⟩), (fun g1 g2 => ⟨_, _, _, rfl, own_base hown7 SX.size⟩), (fun g1 g2 => by obtain ⟨g, e, b, l⟩ := h8 g1 g2; exact ⟨g, e, b.keep hb, l⟩), (fun g1 => by obtain ⟨⟨f6, f7, f8⟩, g, A', m, c', e, b, l, o⟩ := h9 g1; cases f7)⟩
        | 8, _ =>
          intro o ho l xs w1 hl hx hG hi hdep K hK
          obtain rfl := Option.some.inj (ho.symm.trans rfl)
          clear ho
          obtain ⟨l0, l1, l2, l3, l4, l5, l6, l7, l8, l9, rfl⟩ := SL_b l hl
          obtain ⟨x0, x1, x2, x3, x4, x5, x6, x7, x8, x9, rfl⟩ := SL_v xs hx
          obtain rfl : l8 = false := hi
          clear hdep hl hx
          dsimp only [setAll, List.set_cons_zero, List.set_cons_succ] at hK ⊢
          have hf := SL_get w wS.drew a h np q (k : Int) A Al nA cA lift.length cl (rowsB a h bs) P hG
          have hsz := hf.1.size
          clear hf
          go_simp
          refine hK.out _ _ ?_
          clear hK K
          have hC := SL_get w wS.drew a h np q (k : Int) A Al nA cA lift.length cl (rowsB a h bs) P hG
          cases hC
          rename_i SD ez88
          cases ez88
          rename_i h0 ez89
          cases ez89
          rename_i h1 ez90
          cases ez90
          rename_i h2 ez91
          cases ez91
          rename_i h3 ez92
          cases ez92
          rename_i h4 ez93
          cases ez93
          rename_i h5 ez94
          cases ez94
          rename_i h6 ez95
          cases ez95
          rename_i h7 ez96
          cases ez96
          rename_i h8 h9
          have hb := fun ob => (Below.refl w1.heap.size w1).alloc (Nat.le_refl _) ob
          refine SL_mk w wS.drew a h np q (k : Int) A Al nA cA lift.length cl (rowsB a h bs) P ?_
          exact ⟨below_then SD (hb _), (fun g1 => by obtain e := h0 g1; exact e), (fun g1 => by obtain e := h1 g1; exact e), (fun g1 => by obtain e := h2 g1; exact e), (fun g1 g2 => by obtain ⟨A', c', e, lr⟩ := h3 g1 g2; exact ⟨A', c', e, lr.below (hb _)⟩), (fun g1 => by obtain e := h4 g1; exact e), (fun g1 => by obtain e := h5 g1; exact e), (fun g1 g2 => by obtain ⟨A', c', e, lr⟩ := h6 g1 g2; exact ⟨A', c', e, lr.below (hb _)⟩), (fun g1 g2 => by obtain ⟨A', m, c', e, o⟩ := h7 g1 g2; exact ⟨A', m, c', e, own_below o (hb _)⟩), (fun g1 g2 => ⟨_, rfl, Blk.new _ _ _, hsz⟩), (fun g1 => by obtain ⟨⟨f6, f7, f8⟩, g, A', m, c', e, b, l, o⟩ := h9 g1; cases f8)⟩
        | 9, _ =>
          intro o ho l xs w1 hl hx hG hi hdep K hK
          obtain rfl := Option.some.inj (ho.symm.trans rfl)
          clear ho
          obtain ⟨l0, l1, l2, l3, l4, l5, l6, l7, l8, l9, rfl⟩ := SL_b l hl
          obtain ⟨x0, x1, x2, x3, x4, x5, x6, x7, x8, x9, rfl⟩ := SL_v xs hx
          obtain rfl : l9 = false := hi
          obtain rfl : l8 = true := hdep 8 (by kernel_rfl)
          obtain rfl : l7 = true := hdep 7 (by kernel_rfl)
          obtain rfl : l0 = true := hdep 0 (by kernel_rfl)
          obtain rfl : l1 = true := hdep 1 (by kernel_rfl)
          obtain rfl : l2 = true := hdep 2 (by kernel_rfl)
          obtain rfl : l3 = true := hdep 3 (by kernel_rfl)
          obtain rfl : l4 = true := hdep 4 (by kernel_rfl)
          obtain rfl : l5 = true := hdep 5 (by kernel_rfl)
          obtain rfl : l6 = true := hdep 6 (by kernel_rfl)
          clear hdep hl hx
          dsimp only [setAll, List.set_cons_zero, List.set_cons_succ] at hK ⊢
          have hf := SL_get w wS.drew a h np q (k : Int) A Al nA cA lift.length cl (rowsB a h bs) P hG
          have hF0 := (hf.2.2.2.2.2.2.2.2.2.1 rfl rfl)
          have hF1 := (hf.2.2.2.2.2.2.2.2.1 rfl rfl)
          clear hf
          cases hF0
          rename_i g ez97
          cases ez97
          rename_i ez98 ez99
          cases ez99
          rename_i hbg hlg
          subst ez98
          cases hF1
          rename_i A' ez100
          cases ez100
          rename_i m ez101
          cases ez101
          rename_i c' ez102
          cases ez102
          rename_i ez103 hown
          subst ez103
          have hE104 := hbg.cell3
          cases hE104
          rename_i c0 ez105
          cases ez105
          rename_i c1 c2
          have hE106 := hbg.frozen3
          cases hE106
          rename_i f0 ez107
          cases ez107
          rename_i f1 f2
          have hlt := hbg.lt
          go_simp
          refine hK.out undef _ ?_
          clear hK K
          have hC := SL_get w wS.drew a h np q (k : Int) A Al nA cA lift.length cl (rowsB a h bs) P hG
          cases hC
          rename_i SD ez108
          cases ez108
          rename_i h0 ez109
          cases ez109
          rename_i h1 ez110
          cases ez110
          rename_i h2 ez111
          cases ez111
          rename_i h3 ez112
          cases ez112
          rename_i h4 ez113
          cases ez113
          rename_i h5 ez114
          cases ez114
          rename_i h6 ez115
          cases ez115
          rename_i h7 ez116
          cases ez116
          rename_i h8 h9
          refine SL_mk w wS.drew a h np q (k : Int) A Al nA cA lift.length cl (rowsB a h bs) P ?_
          exact ⟨below_set3 SD hlg _ _ _, h0, h1, h2, (fun _ g2 => by cases g2), h4, h5, (fun _ g2 => by cases g2), (fun _ g2 => by cases g2), (fun _ g2 => by cases g2), (fun g1 => ⟨⟨rfl, rfl, rfl⟩, g, A', m, c', rfl, hbg.set3 _ _ _, hlg, own_set3 hown hbg (by decide) _ _ _⟩)⟩
        | k + 10, h => exact absurd h (by omega)
      · obtain ⟨x0, x1, x2, x3, x4, x5, x6, x7, x8, x9, rfl⟩ := SL_v xs hx
        have hG : SL w wS.drew a h np q (k : Int) A Al nA cA lift.length cl (rowsB a h bs) P [true, true, true, true, true, true, true, true, true, true] [x0, x1, x2, x3, x4, x5, x6, x7, x8, x9] wf := hG
        have hf := SL_get w wS.drew a h np q (k : Int) A Al nA cA lift.length cl (rowsB a h bs) P hG
        have hF0 := (hf.2.2.2.2.2.2.2.2.2.2 rfl)
        have hbf := hf.1
        clear hf
        cases hF0
        rename_i _ ez117
        cases ez117
        rename_i g ez118
        cases ez118
        rename_i Ag ez119
        cases ez119
        rename_i mg ez120
        cases ez120
        rename_i cg ez121
        cases ez121
        rename_i ez122 ez123
        cases ez123
        rename_i hbg ez124
        cases ez124
        rename_i hlg hown
        subst ez122
        clear hG hx
        dsimp only [setAll, List.set_cons_zero, List.set_cons_succ]
        have S2 := SD1.out _ hbf
        have hmg : mg = FL := by have h1 := hown.1; rw [List.length_map, HFL.out] at h1; omega
        subst hmg
        have HPC := Lib.hid (fun u => pcheck_any a np Ag mg cg u)
        obtain ⟨c0, c1, c2⟩ := hbg.cell3
        by_cases hk3 : chkP a np mg = 0
        · have hkb3 : (chkP a np mg != 0) = false := by simpa using hk3
          have HXX := Lib.hid (HX5.out.2 hk3)
          generalize chkP a np mg = K3 at *
          go_wp2_with fail
          refine (HPC.out _).mono ?_
          rintro e w5 ⟨rfl, hb5⟩
          have S5 := S2.keep hb5
          have hbg5 := hbg.keep hb5
          have hown5 := own_below hown hb5
          clear c0 c1 c2
          obtain ⟨c0, c1, c2⟩ := hbg5.cell3
          obtain ⟨r0, r1, r2⟩ := (S5.blk 2 rfl).cell3
          obtain ⟨f0, f1, f2⟩ := (S5.blk 2 rfl).frozen3
          obtain ⟨q0, q1, q2⟩ := ((S5.blk 2 rfl).set3 (.int .i64 a) (.int .i64 np) (.slice Ag mg cg)).cell3
          go_wp2_with fail
          refine bodyPost_ret (v := .tuple #[.agg #[.int .i64 a, .int .i64 np, .slice Ag mg cg], .int .i64 0]) (by simp [results, Try.results25, go_sem, q0, q1, q2]) rfl ?_
          rw [HXX.out]
          exact ⟨Ag, _, cg, by rw [← HNP.out]; rfl, own_set3 hown5 (S5.blk 2 rfl) (by decide) _ _ _, below_set3 S5.below (by omega) _ _ _⟩
        · have hkb3 : (chkP a np mg != 0) = true := by simpa using hk3
          have HXX := Lib.hid (HX5.out.1 hk3)
          generalize chkP a np mg = K3 at *
          go_wp2_with fail
          refine (HPC.out _).mono ?_
          rintro e w5 ⟨rfl, hb5⟩
          have S5 := S2.keep hb5
          clear c0 c1 c2
          obtain ⟨r0, r1, r2⟩ := (S5.blk 2 rfl).cell3
          obtain ⟨f0, f1, f2⟩ := (S5.blk 2 rfl).frozen3
          obtain ⟨q0, q1, q2⟩ := ((S5.blk 2 rfl).set3 (.int .i64 0) (.int .i64 0) (.slice none 0 0)).cell3
          go_wp2_with fail
          refine bodyPost_ret (v := .tuple #[.agg #[.int .i64 0, .int .i64 0, .slice none 0 0], .int .i64 K3]) (by simp [results, Try.results25, go_sem, q0, q1, q2]) rfl ?_
          rw [HXX.out]
          exact ⟨none, 0, 0, rfl, World.ownsRow_nil _ _ _ _, below_set3 S5.below (by omega) _ _ _⟩
    · obtain ⟨hb0, hb3⟩ := hc
      go_enter Try.func25, Try.ntmps25
      go_wp2_with fail
      refine (HP.out _).mono ?_
      rintro e wS ⟨rfl, hb1⟩
      have S1 := S0.keep hb1
      clear c0 c1 c2 d0 d1
      obtain ⟨c0, c1, c2⟩ := (S1.blk 0 rfl).cell3
      obtain ⟨d0, d1⟩ := (S1.blk 1 rfl).cell2
      go_wp2_with fail
      have SD1 := Lib.hid (fun u (hu : Below wS.drew.heap.size wS.drew u) => show St w [Fact.blk _ _ _, Fact.blk _ _ _, Fact.blk _ _ _] u from S1.drew.keep hu)
      clear c0 c1 c2 d0 d1
      refine wp_region_invL 10 [some 53, some 54, some 55, some 56, some 57, some 58, some 59, some 60, some 9, none] (SL w wS.drew a h np q (k : Int) A Al nA cA lift.length cl (rowsB a h bs) P) (by kernel_rfl) rfl rfl (by decide) (by kernel_rfl) (fun xs hx => ?_) (fun i hi => ?_) (fun xs wf hx hG => ?_)
      · obtain ⟨x0, x1, x2, x3, x4, x5, x6, x7, x8, x9, rfl⟩ := SL_v xs hx
        show SL w wS.drew a h np q (k : Int) A Al nA cA lift.length cl (rowsB a h bs) P [false, false, false, false, false, false, false, false, false, false] [x0, x1, x2, x3, x4, x5, x6, x7, x8, x9] _
        refine SL_mk w wS.drew a h np q (k : Int) A Al nA cA lift.length cl (rowsB a h bs) P ?_
        exact ⟨Below.refl _ _, (fun g1 => by cases g1), (fun g1 => by cases g1), (fun g1 => by cases g1), (fun g1 => by cases g1), (fun g1 => by cases g1), (fun g1 => by cases g1), (fun g1 => by cases g1), (fun g1 => by cases g1), (fun g1 => by cases g1), (fun g1 => by cases g1)⟩
      · match i, hi with
        | 0, _ =>
          intro o ho l xs w1 hl hx hG hi hdep K hK
          obtain rfl := Option.some.inj (ho.symm.trans rfl)
          clear ho
          obtain ⟨l0, l1, l2, l3, l4, l5, l6, l7, l8, l9, rfl⟩ := SL_b l hl
          obtain ⟨x0, x1, x2, x3, x4, x5, x6, x7, x8, x9, rfl⟩ := SL_v xs hx
          obtain rfl : l0 = false := hi
          clear hdep hl hx
          dsimp only [setAll, List.set_cons_zero, List.set_cons_succ] at hK ⊢
          go_simp
          refine hK.out _ _ ?_
          clear hK K
          have hC := SL_get w wS.drew a h np q (k : Int) A Al nA cA lift.length cl (rowsB a h bs) P hG
          cases hC
          rename_i SD ez1
          cases ez1
          rename_i h0 ez2
          cases ez2
          rename_i h1 ez3
          cases ez3
          rename_i h2 ez4
          cases ez4
          rename_i h3 ez5
          cases ez5
          rename_i h4 ez6
          cases ez6
          rename_i h5 ez7
          cases ez7
          rename_i h6 ez8
          cases ez8
          rename_i h7 ez9
          cases ez9
          rename_i h8 h9
          refine SL_mk w wS.drew a h np q (k : Int) A Al nA cA lift.length cl (rowsB a h bs) P ?_
          exact ⟨SD, (fun g1 => rfl), h1, h2, h3, h4, h5, h6, h7, h8, h9⟩
        | 1, _ =>
          intro o ho l xs w1 hl hx hG hi hdep K hK
          obtain rfl := Option.some.inj (ho.symm.trans rfl)
          clear ho
          obtain ⟨l0, l1, l2, l3, l4, l5, l6, l7, l8, l9, rfl⟩ := SL_b l hl
          obtain ⟨x0, x1, x2, x3, x4, x5, x6, x7, x8, x9, rfl⟩ := SL_v xs hx
          obtain rfl : l1 = false := hi
          obtain rfl : l0 = true := hdep 0 (by kernel_rfl)
          clear hdep hl hx
          dsimp only [setAll, List.set_cons_zero, List.set_cons_succ] at hK ⊢
          have hf := SL_get w wS.drew a h np q (k : Int) A Al nA cA lift.length cl (rowsB a h bs) P hG
          have hF0 := (hf.2.1 rfl)
          have SX := SD1.out _ hf.1
          clear hf
          subst hF0
          have hE10 := (SX.blk 0 rfl).cell3
          cases hE10
          rename_i c0 ez11
          cases ez11
          rename_i c1 c2
          have hE12 := (SX.blk 1 rfl).cell2
          cases hE12
          rename_i d0 d1
          go_simp
          refine hK.out _ _ ?_
          clear hK K
          have hC := SL_get w wS.drew a h np q (k : Int) A Al nA cA lift.length cl (rowsB a h bs) P hG
          cases hC
          rename_i SD ez13
          cases ez13
          rename_i h0 ez14
          cases ez14
          rename_i h1 ez15
          cases ez15
          rename_i h2 ez16
          cases ez16
          rename_i h3 ez17
          cases ez17
          rename_i h4 ez18
          cases ez18
          rename_i h5 ez19
          cases ez19
          rename_i h6 ez20
          cases ez20
          rename_i h7 ez21
          cases ez21
          rename_i h8 h9
          refine SL_mk w wS.drew a h np q (k : Int) A Al nA cA lift.length cl (rowsB a h bs) P ?_
          exact ⟨SD, h0, (fun g1 => rfl), h2, h3, h4, h5, h6, h7, h8, h9⟩
        | 2, _ =>
          intro o ho l xs w1 hl hx hG hi hdep K hK
          obtain rfl := Option.some.inj (ho.symm.trans rfl)
          clear ho
          obtain ⟨l0, l1, l2, l3, l4, l5, l6, l7, l8, l9, rfl⟩ := SL_b l hl
          obtain ⟨x0, x1, x2, x3, x4, x5, x6, x7, x8, x9, rfl⟩ := SL_v xs hx
          obtain rfl : l2 = false := hi
          clear hdep hl hx
          dsimp only [setAll, List.set_cons_zero, List.set_cons_succ] at hK ⊢
          have hf := SL_get w wS.drew a h np q (k : Int) A Al nA cA lift.length cl (rowsB a h bs) P hG
          have SX := SD1.out _ hf.1
          clear hf
          have hE22 := (SX.blk 0 rfl).cell3
          cases hE22
          rename_i c0 ez23
          cases ez23
          rename_i c1 c2
          have hE24 := (SX.blk 1 rfl).cell2
          cases hE24
          rename_i d0 d1
          go_simp
          refine hK.out _ _ ?_
          clear hK K
          have hC := SL_get w wS.drew a h np q (k : Int) A Al nA cA lift.length cl (rowsB a h bs) P hG
          cases hC
          rename_i SD ez25
          cases ez25
          rename_i h0 ez26
          cases ez26
          rename_i h1 ez27
          cases ez27
          rename_i h2 ez28
          cases ez28
          rename_i h3 ez29
          cases ez29
          rename_i h4 ez30
          cases ez30
          rename_i h5 ez31
          cases ez31
          rename_i h6 ez32
          cases ez32
          rename_i h7 ez33
          cases ez33
          rename_i h8 h9
          refine SL_mk w wS.drew a h np q (k : Int) A Al nA cA lift.length cl (rowsB a h bs) P ?_
          exact ⟨SD, h0, h1, (fun g1 => rfl), h3, h4, h5, h6, h7, h8, h9⟩
        | 3, _ =>
          intro o ho l xs w1 hl hx hG hi hdep K hK
          obtain rfl := Option.some.inj (ho.symm.trans rfl)
          clear ho
          obtain ⟨l0, l1, l2, l3, l4, l5, l6, l7, l8, l9, rfl⟩ := SL_b l hl
          obtain ⟨x0, x1, x2, x3, x4, x5, x6, x7, x8, x9, rfl⟩ := SL_v xs hx
          obtain rfl : l3 = false := hi
          obtain rfl : l2 = true := hdep 2 (by kernel_rfl)
          clear hdep hl hx
          dsimp only [setAll, List.set_cons_zero, List.set_cons_succ] at hK ⊢
          have hf := SL_get w wS.drew a h np q (k : Int) A Al nA cA lift.length cl (rowsB a h bs) P hG
          have hF0 := (hf.2.2.2.1 rfl)
          have SX := SD1.out _ hf.1
          clear hf
          subst hF0
          go_simp
          refine (HPK.out _ SX.below).mono ?_
          rintro e wz ⟨A', c', rfl, hlr, hbz⟩
          try go_simp
          refine hK.out _ _ ?_
          clear hK K
          have hC := SL_get w wS.drew a h np q (k : Int) A Al nA cA lift.length cl (rowsB a h bs) P hG
          cases hC
          rename_i SD ez34
          cases ez34
          rename_i h0 ez35
          cases ez35
          rename_i h1 ez36
          cases ez36
          rename_i h2 ez37
          cases ez37
          rename_i h3 ez38
          cases ez38
          rename_i h4 ez39
          cases ez39
          rename_i h5 ez40
          cases ez40
          rename_i h6 ez41
          cases ez41
          rename_i h7 ez42
          cases ez42
          rename_i h8 h9
          have hb := hbz
          refine SL_mk w wS.drew a h np q (k : Int) A Al nA cA lift.length cl (rowsB a h bs) P ?_
          exact ⟨below_then SD hb, (fun g1 => by obtain e := h0 g1; exact e), (fun g1 => by obtain e := h1 g1; exact e), (fun g1 => by obtain e := h2 g1; exact e), (fun g1 g2 => ⟨_, _, rfl, hlr⟩), (fun g1 => by obtain e := h4 g1; exact e), (fun g1 => by obtain e := h5 g1; exact e), (fun g1 g2 => by obtain ⟨A', c', e, lr⟩ := h6 g1 g2; exact ⟨A', c', e, lr.below hb⟩), (fun g1 g2 => by obtain ⟨A', m, c', e, o⟩ := h7 g1 g2; exact ⟨A', m, c', e, own_below o hb⟩), (fun g1 g2 => by obtain ⟨g, e, b, l⟩ := h8 g1 g2; exact ⟨g, e, b.keep hb, l⟩), (fun g1 => by obtain ⟨⟨f6, f7, f8⟩, g, A', m, c', e, b, l, o⟩ := h9 g1; exact ⟨⟨f6, f7, f8⟩, g, A', m, c', e, b.keep hb, l, own_below o hb⟩)⟩
        | 4, _ =>
          intro o ho l xs w1 hl hx hG hi hdep K hK
          obtain rfl := Option.some.inj (ho.symm.trans rfl)
          clear ho
          obtain ⟨l0, l1, l2, l3, l4, l5, l6, l7, l8, l9, rfl⟩ := SL_b l hl
          obtain ⟨x0, x1, x2, x3, x4, x5, x6, x7, x8, x9, rfl⟩ := SL_v xs hx
          obtain rfl : l4 = false := hi
          clear hdep hl hx
          dsimp only [setAll, List.set_cons_zero, List.set_cons_succ] at hK ⊢
          have hf := SL_get w wS.drew a h np q (k : Int) A Al nA cA lift.length cl (rowsB a h bs) P hG
          have SX := SD1.out _ hf.1
          clear hf
          have hE43 := (SX.blk 0 rfl).cell3
          cases hE43
          rename_i c0 ez44
          cases ez44
          rename_i c1 c2
          have hE45 := (SX.blk 1 rfl).cell2
          cases hE45
          rename_i d0 d1
          go_simp
          refine hK.out _ _ ?_
          clear hK K
          have hC := SL_get w wS.drew a h np q (k : Int) A Al nA cA lift.length cl (rowsB a h bs) P hG
          cases hC
          rename_i SD ez46
          cases ez46
          rename_i h0 ez47
          cases ez47
          rename_i h1 ez48
          cases ez48
          rename_i h2 ez49
          cases ez49
          rename_i h3 ez50
          cases ez50
          rename_i h4 ez51
          cases ez51
          rename_i h5 ez52
          cases ez52
          rename_i h6 ez53
          cases ez53
          rename_i h7 ez54
          cases ez54
          rename_i h8 h9
          refine SL_mk w wS.drew a h np q (k : Int) A Al nA cA lift.length cl (rowsB a h bs) P ?_
          exact ⟨SD, h0, h1, h2, h3, (fun g1 => rfl), h5, h6, h7, h8, h9⟩
        | 5, _ =>
          intro o ho l xs w1 hl hx hG hi hdep K hK
          obtain rfl := Option.some.inj (ho.symm.trans rfl)
          clear ho
          obtain ⟨l0, l1, l2, l3, l4, l5, l6, l7, l8, l9, rfl⟩ := SL_b l hl
          obtain ⟨x0, x1, x2, x3, x4, x5, x6, x7, x8, x9, rfl⟩ := SL_v xs hx
          obtain rfl : l5 = false := hi
          clear hdep hl hx
          dsimp only [setAll, List.set_cons_zero, List.set_cons_succ] at hK ⊢
          go_simp
          refine hK.out _ _ ?_
          clear hK K
          have hC := SL_get w wS.drew a h np q (k : Int) A Al nA cA lift.length cl (rowsB a h bs) P hG
          cases hC
          rename_i SD ez55
          cases ez55
          rename_i h0 ez56
          cases ez56
          rename_i h1 ez57
          cases ez57
          rename_i h2 ez58
          cases ez58
          rename_i h3 ez59
          cases ez59
          rename_i h4 ez60
          cases ez60
          rename_i h5 ez61
          cases ez61
          rename_i h6 ez62
          cases ez62
          rename_i h7 ez63
          cases ez63
          rename_i h8 h9
          refine SL_mk w wS.drew a h np q (k : Int) A Al nA cA lift.length cl (rowsB a h bs) P ?_
          exact ⟨SD, h0, h1, h2, h3, h4, (fun g1 => rfl), h6, h7, h8, h9⟩
        | 6, _ =>
          intro o ho l xs w1 hl hx hG hi hdep K hK
          obtain rfl := Option.some.inj (ho.symm.trans rfl)
          clear ho
          obtain ⟨l0, l1, l2, l3, l4, l5, l6, l7, l8, l9, rfl⟩ := SL_b l hl
          obtain ⟨x0, x1, x2, x3, x4, x5, x6, x7, x8, x9, rfl⟩ := SL_v xs hx
          obtain rfl : l6 = false := hi
          obtain rfl : l3 = true := hdep 3 (by kernel_rfl)
          obtain rfl : l4 = true := hdep 4 (by kernel_rfl)
          obtain rfl : l5 = true := hdep 5 (by kernel_rfl)
          clear hdep hl hx
          dsimp only [setAll, List.set_cons_zero, List.set_cons_succ] at hK ⊢
          have hf := SL_get w wS.drew a h np q (k : Int) A Al nA cA lift.length cl (rowsB a h bs) P hG
          have hl9 : l9 = false := by
            cases l9 with
            | false => rfl
            | true => exact absurd (hf.2.2.2.2.2.2.2.2.2.2 rfl).1.1 (by decide)
          subst hl9
          have hF5 := (hf.2.2.2.2.1 rfl rfl)
          have hF6 := (hf.2.2.2.2.2.1 rfl)
          have hF7 := (hf.2.2.2.2.2.2.1 rfl)
          have SX := SD1.out _ hf.1
          clear hf
          cases hF5
          rename_i A' ez64
          cases ez64
          rename_i c' ez65
          cases ez65
          rename_i ez66 lr
          subst ez66
          subst hF6
          subst hF7
          go_simp
          refine (HSP.out _ A' c' SX.below lr).mono ?_
          rintro e wz ⟨A2, c2, rfl, hlr2, hbz⟩
          try go_simp
          refine hK.out _ _ ?_
          clear hK K
          have hC := SL_get w wS.drew a h np q (k : Int) A Al nA cA lift.length cl (rowsB a h bs) P hG
          cases hC
          rename_i SD ez67
          cases ez67
          rename_i h0 ez68
          cases ez68
          rename_i h1 ez69
          cases ez69
          rename_i h2 ez70
          cases ez70
          rename_i h3 ez71
          cases ez71
          rename_i h4 ez72
          cases ez72
          rename_i h5 ez73
          cases ez73
          rename_i h6 ez74
          cases ez74
          rename_i h7 ez75
          cases ez75
          rename_i h8 h9
          have hb := hbz
          refine SL_mk w wS.drew a h np q (k : Int) A Al nA cA lift.length cl (rowsB a h bs) P ?_
          exact ⟨below_then SD hb, (fun g1 => by obtain e := h0 g1; exact e), (fun g1 => by obtain e := h1 g1; exact e), (fun g1 => by obtain e := h2 g1; exact e), (fun g1 g2 => by obtain ⟨A', c', e, lr⟩ := h3 g1 g2; exact ⟨A', c', e, lr.below hb⟩), (fun g1 => by obtain e := h4 g1; exact e), (fun g1 => by obtain e := h5 g1; exact e), (fun g1 g2 => ⟨_, _, rfl, hlr2⟩), (fun g1 g2 => by obtain ⟨A', m, c', e, o⟩ := h7 g1 g2; exact ⟨A', m, c', e, own_below o hb⟩), (fun g1 g2 => by obtain ⟨g, e, b, l⟩ := h8 g1 g2; exact ⟨g, e, b.keep hb, l⟩), (fun g1 => by obtain ⟨⟨f6, f7, f8⟩, g, A', m, c', e, b, l, o⟩ := h9 g1; cases f6)⟩
        | 7, _ =>
          intro o ho l xs w1 hl hx hG hi hdep K hK
          obtain rfl := Option.some.inj (ho.symm.trans rfl)
          clear ho
          obtain ⟨l0, l1, l2, l3, l4, l5, l6, l7, l8, l9, rfl⟩ := SL_b l hl
          obtain ⟨x0, x1, x2, x3, x4, x5, x6, x7, x8, x9, rfl⟩ := SL_v xs hx
          obtain rfl : l7 = false := hi
          obtain rfl : l1 = true := hdep 1 (by kernel_rfl)
          obtain rfl : l6 = true := hdep 6 (by kernel_rfl)
          clear hdep hl hx
          dsimp only [setAll, List.set_cons_zero, List.set_cons_succ] at hK ⊢
          have hf := SL_get w wS.drew a h np q (k : Int) A Al nA cA lift.length cl (rowsB a h bs) P hG
          have hl9 : l9 = false := by
            cases l9 with
            | false => rfl
            | true => exact absurd (hf.2.2.2.2.2.2.2.2.2.2 rfl).1.2.1 (by decide)
          subst hl9
          have hF5 := (hf.2.2.1 rfl)
          have hF6 := (hf.2.2.2.2.2.2.2.1 rfl rfl)
          have SX := SD1.out _ hf.1
          clear hf
          subst hF5
          cases hF6
          rename_i A' ez76
          cases ez76
          rename_i c' ez77
          cases ez77
          rename_i ez78 lr
          subst ez78
          go_simp
          refine (HLF.out _ A' c' lr).mono ?_
          rintro e wz ⟨A2, m2, c2, rfl, hown7, hbz⟩
          try go_simp
          refine hK.out _ _ ?_
          clear hK K
          have hC := SL_get w wS.drew a h np q (k : Int) A Al nA cA lift.length cl (rowsB a h bs) P hG
          cases hC
          rename_i SD ez79
          cases ez79
          rename_i h0 ez80
          cases ez80
          rename_i h1 ez81
          cases ez81
          rename_i h2 ez82
          cases ez82
          rename_i h3 ez83
          cases ez83
          rename_i h4 ez84
          cases ez84
          rename_i h5 ez85
          cases ez85
          rename_i h6 ez86
          cases ez86
          rename_i h7 ez87
          cases ez87
          rename_i h8 h9
          have hb := hbz
          refine SL_mk w wS.drew a h np q (k : Int) A Al nA cA lift.length cl (rowsB a h bs) P ?_
          exact ⟨below_then SD hb, (fun g1 => by obtain e := h0 g1; exact e), (fun g1 => by obtain e := h1 g1; exact e), (fun g1 => by obtain e := h2 g1; exact e), (fun g1 g2 => by obtain ⟨A', c', e, lr⟩ := h3 g1 g2; exact ⟨A', c', e, lr.below hb⟩), (fun g1 => by obtain e := h4 g1; exact e), (fun g1 => by obtain e := h5 g1; exact e), (fun g1 g2 => by obtain ⟨A', c', e, lr⟩ := h6 g1 g2; exact ⟨A', c', e, lr.below hb⟩), (fun g1 g2 => ⟨_, _, _, rfl, own_base hown7 SX.size⟩), (fun g1 g2 => by obtain ⟨g, e, b, l⟩ := h8 g1 g2; exact ⟨g, e, b.keep hb, l⟩), (fun g1 => by obtain ⟨⟨f6, f7, f8⟩, g, A', m, c', e, b, l, o⟩ := h9 g1; cases f7)⟩
        | 8, _ =>
          intro o ho l xs w1 hl hx hG hi hdep K hK
          obtain rfl := Option.some.inj (ho.symm.trans rfl)
          clear ho
          obtain ⟨l0, l1, l2, l3, l4, l5, l6, l7, l8, l9, rfl⟩ := SL_b l hl
          obtain ⟨x0, x1, x2, x3, x4, x5, x6, x7, x8, x9, rfl⟩ := SL_v xs hx
          obtain rfl : l8 = false := hi
          clear hdep hl hx
          dsimp only [setAll, List.set_cons_zero, List.set_cons_succ] at hK ⊢
          have hf := SL_get w wS.drew a h np q (k : Int) A Al nA cA lift.length cl (rowsB a h bs) P hG
          have hsz := hf.1.size
          clear hf
          go_simp
          refine hK.out _ _ ?_
          clear hK K
          have hC := SL_get w wS.drew a h np q (k : Int) A Al nA cA lift.length cl (rowsB a h bs) P hG
          cases hC
          rename_i SD ez88
          cases ez88
          rename_i h0 ez89
          cases ez89
          rename_i h1 ez90
          cases ez90
          rename_i h2 ez91
          cases ez91
          rename_i h3 ez92
          cases ez92
          rename_i h4 ez93
          cases ez93
          rename_i h5 ez94
          cases ez94
          rename_i h6 ez95
          cases ez95
          rename_i h7 ez96
          cases ez96
          rename_i h8 h9
          have hb := fun ob => (Below.refl w1.heap.size w1).alloc (Nat.le_refl _) ob
          refine SL_mk w wS.drew a h np q (k : Int) A Al nA cA lift.length cl (rowsB a h bs) P ?_
          exact ⟨below_then SD (hb _), (fun g1 => by obtain e := h0 g1; exact e), (fun g1 => by obtain e := h1 g1; exact e), (fun g1 => by obtain e := h2 g1; exact e), (fun g1 g2 => by obtain ⟨A', c', e, lr⟩ := h3 g1 g2; exact ⟨A', c', e, lr.below (hb _)⟩), (fun g1 => by obtain e := h4 g1; exact e), (fun g1 => by obtain e := h5 g1; exact e), (fun g1 g2 => by obtain ⟨A', c', e, lr⟩ := h6 g1 g2; exact ⟨A', c', e, lr.below (hb _)⟩), (fun g1 g2 => by obtain ⟨A', m, c', e, o⟩ := h7 g1 g2; exact ⟨A', m, c', e, own_below o (hb _)⟩), (fun g1 g2 => ⟨_, rfl, Blk.new _ _ _, hsz⟩), (fun g1 => by obtain ⟨⟨f6, f7, f8⟩, g, A', m, c', e, b, l, o⟩ := h9 g1; cases f8)⟩
        | 9, _ =>
          intro o ho l xs w1 hl hx hG hi hdep K hK
          obtain rfl := Option.some.inj (ho.symm.trans rfl)
          clear ho
          obtain ⟨l0, l1, l2, l3, l4, l5, l6, l7, l8, l9, rfl⟩ := SL_b l hl
          obtain ⟨x0, x1, x2, x3, x4, x5, x6, x7, x8, x9, rfl⟩ := SL_v xs hx
          obtain rfl : l9 = false := hi
          obtain rfl : l8 = true := hdep 8 (by kernel_rfl)
          obtain rfl : l7 = true := hdep 7 (by kernel_rfl)
          obtain rfl : l0 = true := hdep 0 (by kernel_rfl)
          obtain rfl : l1 = true := hdep 1 (by kernel_rfl)
          obtain rfl : l2 = true := hdep 2 (by kernel_rfl)
          obtain rfl : l3 = true := hdep 3 (by kernel_rfl)
          obtain rfl : l4 = true := hdep 4 (by kernel_rfl)
          obtain rfl : l5 = true := hdep 5 (by kernel_rfl)
          obtain rfl : l6 = true := hdep 6 (by kernel_rfl)
          clear hdep hl hx
          dsimp only [setAll, List.set_cons_zero, List.set_cons_succ] at hK ⊢
          have hf := SL_get w wS.drew a h np q (k : Int) A Al nA cA lift.length cl (rowsB a h bs) P hG
          have hF0 := (hf.2.2.2.2.2.2.2.2.2.1 rfl rfl)
          have hF1 := (hf.2.2.2.2.2.2.2.2.1 rfl rfl)
          clear hf
          cases hF0
          rename_i g ez97
          cases ez97
          rename_i ez98 ez99
          cases ez99
          rename_i hbg hlg
          subst ez98
          cases hF1
          rename_i A' ez100
          cases ez100
          rename_i m ez101
          cases ez101
          rename_i c' ez102
          cases ez102
          rename_i ez103 hown
          subst ez103
          have hE104 := hbg.cell3
          cases hE104
          rename_i c0 ez105
          cases ez105
          rename_i c1 c2
          have hE106 := hbg.frozen3
          cases hE106
          rename_i f0 ez107
          cases ez107
          rename_i f1 f2
          have hlt := hbg.lt
          go_simp
          refine hK.out undef _ ?_
          clear hK K
          have hC := SL_get w wS.drew a h np q (k : Int) A Al nA cA lift.length cl (rowsB a h bs) P hG
          cases hC
          rename_i SD ez108
          cases ez108
          rename_i h0 ez109
          cases ez109
          rename_i h1 ez110
          cases ez110
          rename_i h2 ez111
          cases ez111
          rename_i h3 ez112
          cases ez112
          rename_i h4 ez113
          cases ez113
          rename_i h5 ez114
          cases ez114
          rename_i h6 ez115
          cases ez115
          rename_i h7 ez116
          cases ez116
          rename_i h8 h9
          refine SL_mk w wS.drew a h np q (k : Int) A Al nA cA lift.length cl (rowsB a h bs) P ?_
          exact ⟨below_set3 SD hlg _ _ _, h0, h1, h2, (fun _ g2 => by cases g2), h4, h5, (fun _ g2 => by cases g2), (fun _ g2 => by cases g2), (fun _ g2 => by cases g2), (fun g1 => ⟨⟨rfl, rfl, rfl⟩, g, A', m, c', rfl, hbg.set3 _ _ _, hlg, own_set3 hown hbg (by decide) _ _ _⟩)⟩
        | k + 10, h => exact absurd h (by omega)
      · obtain ⟨x0, x1, x2, x3, x4, x5, x6, x7, x8, x9, rfl⟩ := SL_v xs hx
        have hG : SL w wS.drew a h np q (k : Int) A Al nA cA lift.length cl (rowsB a h bs) P [true, true, true, true, true, true, true, true, true, true] [x0, x1, x2, x3, x4, x5, x6, x7, x8, x9] wf := hG
        have hf := SL_get w wS.drew a h np q (k : Int) A Al nA cA lift.length cl (rowsB a h bs) P hG
        have hF0 := (hf.2.2.2.2.2.2.2.2.2.2 rfl)
        have hbf := hf.1
        clear hf
        cases hF0
        rename_i _ ez117
        cases ez117
        rename_i g ez118
        cases ez118
        rename_i Ag ez119
        cases ez119
        rename_i mg ez120
        cases ez120
        rename_i cg ez121
        cases ez121
        rename_i ez122 ez123
        cases ez123
        rename_i hbg ez124
        cases ez124
        rename_i hlg hown
        subst ez122
        clear hG hx
        dsimp only [setAll, List.set_cons_zero, List.set_cons_succ]
        have S2 := SD1.out _ hbf
        have hmg : mg = FL := by have h1 := hown.1; rw [List.length_map, HFL.out] at h1; omega
        subst hmg
        have HPC := Lib.hid (fun u => pcheck_any a np Ag mg cg u)
        obtain ⟨c0, c1, c2⟩ := hbg.cell3
        by_cases hk3 : chkP a np mg = 0
        · have hkb3 : (chkP a np mg != 0) = false := by simpa using hk3
          have HXX := Lib.hid (HX5.out.2 hk3)
          generalize chkP a np mg = K3 at *
          go_wp2_with fail
          refine (HPC.out _).mono ?_
          rintro e w5 ⟨rfl, hb5⟩
          have S5 := S2.keep hb5
          have hbg5 := hbg.keep hb5
          have hown5 := own_below hown hb5
          clear c0 c1 c2
          obtain ⟨c0, c1, c2⟩ := hbg5.cell3
          obtain ⟨r0, r1, r2⟩ := (S5.blk 2 rfl).cell3
          obtain ⟨f0, f1, f2⟩ := (S5.blk 2 rfl).frozen3
          obtain ⟨q0, q1, q2⟩ := ((S5.blk 2 rfl).set3 (.int .i64 a) (.int .i64 np) (.slice Ag mg cg)).cell3
          go_wp2_with fail
          refine bodyPost_ret (v := .tuple #[.agg #[.int .i64 a, .int .i64 np, .slice Ag mg cg], .int .i64 0]) (by simp [results, Try.results25, go_sem, q0, q1, q2]) rfl ?_
          rw [HXX.out]
          exact ⟨Ag, _, cg, by rw [← HNP.out]; rfl, own_set3 hown5 (S5.blk 2 rfl) (by decide) _ _ _, below_set3 S5.below (by omega) _ _ _⟩
        · have hkb3 : (chkP a np mg != 0) = true := by simpa using hk3
          have HXX := Lib.hid (HX5.out.1 hk3)
          generalize chkP a np mg = K3 at *
          go_wp2_with fail
          refine (HPC.out _).mono ?_
          rintro e w5 ⟨rfl, hb5⟩
          have S5 := S2.keep hb5
          clear c0 c1 c2
          obtain ⟨r0, r1, r2⟩ := (S5.blk 2 rfl).cell3
          obtain ⟨f0, f1, f2⟩ := (S5.blk 2 rfl).frozen3
          obtain ⟨q0, q1, q2⟩ := ((S5.blk 2 rfl).set3 (.int .i64 0) (.int .i64 0) (.slice none 0 0)).cell3
          go_wp2_with fail
          refine bodyPost_ret (v := .tuple #[.agg #[.int .i64 0, .int .i64 0, .slice none 0 0], .int .i64 K3]) (by simp [results, Try.results25, go_sem, q0, q1, q2]) rfl ?_
          rw [HXX.out]
          exact ⟨none, 0, 0, rfl, World.ownsRow_nil _ _ _ _, below_set3 S5.below (by omega) _ _ _⟩
  · have hkb : (chkP W H nA != 0) = true := by simpa using hk
    have HX := Lib.hid (spoilG_1 (q := q) (k := k0) (lift := lift) (show chkP W H bs.length ≠ 0 by rw [hl]; exact hk))
    rw [hl] at HX
    generalize spoilG W H bs q k0 lift = R at *
    generalize chkP W H nA = K at *
    clear hr hl hk hrl
    go_enter Try.func25, Try.ntmps25
    go_wp2_with fail
    refine (HP.out _).mono ?_
    rintro e w1 ⟨rfl, hb1⟩
    have S1 := S0.keep hb1
    clear c0 c1 c2 d0 d1
    obtain ⟨c0, c1, c2⟩ := (S1.blk 0 rfl).cell3
    obtain ⟨d0, d1⟩ := (S1.blk 1 rfl).cell2
    obtain ⟨r0, r1, r2⟩ := (S1.blk 2 rfl).cell3
    obtain ⟨f0, f1, f2⟩ := (S1.blk 2 rfl).frozen3
    obtain ⟨q0, q1, q2⟩ := ((S1.blk 2 rfl).set3 (.int .i64 0) (.int .i64 0) (.slice none 0 0)).cell3
    go_wp2_with fail
    refine bodyPost_ret (v := .tuple #[.agg #[.int .i64 0, .int .i64 0, .slice none 0 0], .int .i64 K]) (by simp [results, Try.results25, go_sem, q0, q1, q2]) rfl ?_
    rw [HX.out]
    exact ⟨none, 0, 0, rfl, World.ownsRow_nil _ _ _ _, below_set3 S1.below (by omega) _ _ _⟩
end Go.Proofs.Ytfjdlbilnoojkaa
