/- The law's alive(): the chapter's examples. -/
import Derived.Test.YtfjdlbilnoojkaaMg7z
import Derived.Test.YtfjdlbilnoojkaaESamez
import Derived.Test.YtfjdlbilnoojkaaRSamez
import Derived.Test.YtfjdlbilnoojkaaFind20z
import Derived.Test.YtfjdlbilnoojkaaLEz
namespace Go.Proofs.Ytfjdlbilnoojkaa
open Go.RowKit

theorem rd_of_blk {w : World} {g : Nat} {t : TypeId} {cs : Array Value} (h : Blk w g t cs) : Rd w (some ⟨g, 0, none⟩) cs.size cs.toList := by
  refine ⟨by simp, fun _ => ⟨g, 0, rfl, fun j u hj => ?_⟩⟩
  rw [Nat.zero_add, h.cell j]
  simpa using hj
theorem own_le20 {w : World} {base : Nat} {e : TypeId} {A : Option Addr} {n c : Nat} {xs : List Value} (h : w.ownsRow base e 1 (.slice A n c) n xs) : n ≤ c := by
  obtain ⟨A', c', hv, h1, _⟩ := own_shape2 h
  injection hv with _ _ h3
  omega
/-- lifts at literals. -/
theorem lf_any (l : List Int) (n : Nat) (k : Int) (b : Nat) (w : World) (hk : (n : Int) = k) (hr : Rd w (some ⟨b, 0, none⟩) n (l.map (Value.int .i64))) (hl : ∀ v ∈ l, v = 1 ∨ v = 2 ∨ v = 3) (hn : n ≤ 64) :
    Calls Try.prog 35 #[.slice (some ⟨b, 0, none⟩) n n] w fun e w' => ∃ A m c, e = .returned (.agg #[.int .i64 2, .int .i64 k, .slice A m c]) ∧ Rd w' A m ((lfB l).map Value.bool) ∧ m ≤ c ∧ Below w.heap.size w w' := by
  subst hk
  exact (llifts_any l b 0 n n w hr hl hn).mono fun e w' ⟨A, m, c, h1, h2, h3⟩ => ⟨A, m, c, h1, rd_of_own h2, own_le20 h2, h3⟩
theorem log_back_pick {w : World} {g g1 : Nat} {t : TypeId} (h : Blk w g t #[.int .u8 2, .slice none 0 0, .int .u8 1, .slice (some ⟨g1, 0, none⟩) 2 2]) (hr : Rd w (some ⟨g1, 0, none⟩) 2 ((liftB 2).map Value.bool)) : LogR w (some ⟨g, 0, none⟩) 2 [(2, []), (1, liftB 2)] :=
  logR_of_blk h rfl fun i q r hi => by
    match i, hi with
    | 0, hi => obtain ⟨rfl, rfl⟩ : 2 = q ∧ [] = r := by simpa using hi
               exact ⟨rfl, none, 0, rfl, Rd.nil_⟩
    | 1, hi => obtain ⟨rfl, rfl⟩ : 1 = q ∧ liftB 2 = r := by simpa using hi
               exact ⟨rfl, _, 2, rfl, hr⟩
theorem log_two {w : World} {g g1 g2 : Nat} {t : TypeId} {x y : Int} (h : Blk w g t #[.int .u8 1, .slice (some ⟨g1, 0, none⟩) 2 2, .int .u8 1, .slice (some ⟨g2, 0, none⟩) 2 2])
    (h1 : Rd w (some ⟨g1, 0, none⟩) 2 ((liftB x).map Value.bool)) (h2 : Rd w (some ⟨g2, 0, none⟩) 2 ((liftB y).map Value.bool)) : LogR w (some ⟨g, 0, none⟩) 2 [(1, liftB x), (1, liftB y)] :=
  logR_of_blk h rfl fun i q r hi => by
    match i, hi with
    | 0, hi => obtain ⟨rfl, rfl⟩ : 1 = q ∧ liftB x = r := by simpa using hi
               exact ⟨rfl, _, 2, rfl, h1⟩
    | 1, hi => obtain ⟨rfl, rfl⟩ : 1 = q ∧ liftB y = r := by simpa using hi
               exact ⟨rfl, _, 2, rfl, h2⟩
theorem log_four {w : World} {g g1 g2 g4 : Nat} {t : TypeId} (h : Blk w g t #[.int .u8 1, .slice (some ⟨g1, 0, none⟩) 2 2, .int .u8 1, .slice (some ⟨g2, 0, none⟩) 2 2, .int .u8 2, .slice none 0 0, .int .u8 1, .slice (some ⟨g4, 0, none⟩) 2 2])
    (h1 : Rd w (some ⟨g1, 0, none⟩) 2 ((liftB 1).map Value.bool)) (h2 : Rd w (some ⟨g2, 0, none⟩) 2 ((liftB 2).map Value.bool)) (h4 : Rd w (some ⟨g4, 0, none⟩) 2 ((liftB 3).map Value.bool)) : LogR w (some ⟨g, 0, none⟩) 4 kLog :=
  logR_of_blk h rfl fun i q r hi => by
    match i, hi with
    | 0, hi => obtain ⟨rfl, rfl⟩ : 1 = q ∧ liftB 1 = r := by simpa [kLog] using hi
               exact ⟨rfl, _, 2, rfl, h1⟩
    | 1, hi => obtain ⟨rfl, rfl⟩ : 1 = q ∧ liftB 2 = r := by simpa [kLog] using hi
               exact ⟨rfl, _, 2, rfl, h2⟩
    | 2, hi => obtain ⟨rfl, rfl⟩ : 2 = q ∧ [] = r := by simpa [kLog] using hi
               exact ⟨rfl, none, 0, rfl, Rd.nil_⟩
    | 3, hi => obtain ⟨rfl, rfl⟩ : 1 = q ∧ liftB 3 = r := by simpa [kLog] using hi
               exact ⟨rfl, _, 2, rfl, h4⟩
theorem a_replay (g : Nat) (w : World) (h : LogR w (some ⟨g, 0, none⟩) 4 kLog) : Calls Try.prog 13 #[.int .i64 2, .slice (some ⟨g, 0, none⟩) 4 4] w fun e w' => ∃ A n c, e = .returned (.tuple #[.agg #[.int .i64 2, .int .i64 2, .slice A n c], .int .i64 0]) ∧ Rd w' A n ((lfB [1, 3]).map Value.bool) ∧ n ≤ c ∧ Below w.heap.size w w' :=
  (replay_any 2 kLog (some ⟨g, 0, none⟩) 4 4 w h).mono fun e w' h1 => by
    rw [k_replay] at h1
    obtain ⟨A, n, c, h2, h3, h4⟩ := h1
    exact ⟨A, n, c, h2, rd_of_own h3, own_le20 h3, h4⟩
theorem a_find (A B : Option Addr) (nA cA nB cB : Nat) (w : World) (h : Rd w A nA ((lfB [1, 2, 2, 3]).map Value.bool)) (hc : nA ≤ cA) (h2 : Rd w B nB ((lfB [1, 2, 3]).map Value.bool)) (hc2 : nB ≤ cB) :
    Calls Try.prog 23 #[.agg #[.int .i64 2, .int .i64 4, .slice A nA cA], .agg #[.int .i64 2, .int .i64 3, .slice B nB cB]] w fun e w' => e = .returned (.tuple #[.agg #[.int .u8 1, .int .i64 1], .int .i64 0]) ∧ Below w.heap.size w w' :=
  (find20_any 2 4 2 3 _ _ A B nA cA nB cB w h hc h2 hc2).mono fun e w' ⟨q, k, t, h1, h2, h3⟩ => by
    obtain ⟨rfl, rfl, rfl⟩ := h2.unique k_find
    exact ⟨h1, h3⟩
theorem a_mend (A B : Option Addr) (n c : Nat) (w : World) (h : Rd w A n ((lfB [1, 2]).map Value.bool)) (hc : n ≤ c) (h2 : LogR w B 2 [(1, liftB 1), (1, liftB 3)]) :
    Calls Try.prog 17 #[.agg #[.int .i64 2, .int .i64 2, .slice A n c], .slice B 2 2] w fun e w' => ∃ A' c', e = .returned (.tuple #[.slice A' 2 c', .int .i64 0]) ∧ LogR w' A' 2 [(2, []), (1, liftB 2)] ∧ Below w.heap.size w w' :=
  (mend_any 2 2 (lfB [1, 2]) A n c [(1, liftB 1), (1, liftB 3)] B 2 2 w h hc h2 (by decide)).mono fun e w' h1 => by
    rw [k_mend] at h1
    obtain ⟨A', n', c', h3, h4, h5, h6, h7⟩ := h1
    obtain rfl : 2 = n' := h4.len
    exact ⟨A', c', h3, h4, h7⟩
set_option linter.unusedVariables false in
def AL (Wd : World) (p1 p3 n c cm : Nat) (A Am : Option Addr) : List Bool → List Value → World → Prop
  | [l0, l1, l2, l3, l4, l5, l6, l7, l8, l9, l10, l11, l12, l13, l14, l15, l16, l17, l18, l19, l20, l21, l22, l23, l24, l25, l26, l27, l28], [x0, x1, x2, x3, x4, x5, x6, x7, x8, x9, x10, x11, x12, x13, x14, x15, x16, x17, x18, x19, x20, x21, x22, x23, x24, x25, x26, x27, x28], u => (Below Wd.heap.size Wd u) ∧ (l0 = true → x0 = .int .i64 0) ∧ (l1 = true → x1 = .bool true) ∧ (l2 = true → x2 = .bool true) ∧ (l3 = true → x3 = .agg #[.int .i64 2, .int .i64 2, .slice A n c]) ∧ (l4 = true → l5 = false → ∃ g : Nat, x4 = .slice (some ⟨g, 0, none⟩) 2 2 ∧ Rd u (some ⟨g, 0, none⟩) 2 ([.int .i64 1, .int .i64 3] : List Value)) ∧ (l5 = true → l6 = false → ∃ (A' : Option Addr) (n' c' : Nat), x5 = .agg #[.int .i64 2, .int .i64 2, .slice A' n' c'] ∧ Rd u A' n' ((lfB [1, 3]).map Value.bool)) ∧ (l6 = true → x6 = .bool true) ∧ (l7 = true → x7 = .bool true) ∧ (l8 = true → x8 = .bool true) ∧ (l9 = true → x9 = .int .i64 0) ∧ (l10 = true → x10 = .bool true) ∧ (l11 = true → x11 = .bool true) ∧ (l12 = true → x12 = .bool true) ∧ (l13 = true → x13 = .agg #[.int .u8 1, .int .i64 1]) ∧ (l14 = true → x14 = .agg #[.int .u8 1, .int .i64 1]) ∧ (l15 = true → x15 = .bool true) ∧ (l16 = true → x16 = .bool true) ∧ (l17 = true → x17 = .bool true) ∧ (l18 = true → x18 = .int .i64 0) ∧ (l19 = true → x19 = .bool true) ∧ (l20 = true → x20 = .bool true) ∧ (l21 = true → x21 = .bool true) ∧ (l22 = true → x22 = .slice Am 2 cm) ∧ (l23 = true → x23 = .agg #[.int .u8 2, .slice none 0 0]) ∧ (l24 = true → l25 = false → ∃ g : Nat, x24 = .agg #[.int .u8 1, .slice (some ⟨g, 0, none⟩) 2 2] ∧ Rd u (some ⟨g, 0, none⟩) 2 ((liftB 2).map Value.bool)) ∧ (l25 = true → l26 = false → ∃ g : Nat, x25 = .slice (some ⟨g, 0, none⟩) 2 2 ∧ LogR u (some ⟨g, 0, none⟩) 2 [(2, []), (1, liftB 2)]) ∧ (l26 = true → x26 = .bool true) ∧ (l27 = true → x27 = .bool true) ∧ (l28 = true → x28 = .bool true)
  | _, _, _ => False
theorem AL_get (Wd : World) (p1 p3 n c cm : Nat) (A Am : Option Addr) {l0 l1 l2 l3 l4 l5 l6 l7 l8 l9 l10 l11 l12 l13 l14 l15 l16 l17 l18 l19 l20 l21 l22 l23 l24 l25 l26 l27 l28 : Bool} {x0 x1 x2 x3 x4 x5 x6 x7 x8 x9 x10 x11 x12 x13 x14 x15 x16 x17 x18 x19 x20 x21 x22 x23 x24 x25 x26 x27 x28 : Value} {u : World} (hyp : AL Wd p1 p3 n c cm A Am [l0, l1, l2, l3, l4, l5, l6, l7, l8, l9, l10, l11, l12, l13, l14, l15, l16, l17, l18, l19, l20, l21, l22, l23, l24, l25, l26, l27, l28] [x0, x1, x2, x3, x4, x5, x6, x7, x8, x9, x10, x11, x12, x13, x14, x15, x16, x17, x18, x19, x20, x21, x22, x23, x24, x25, x26, x27, x28] u) : (Below Wd.heap.size Wd u) ∧ (l0 = true → x0 = .int .i64 0) ∧ (l1 = true → x1 = .bool true) ∧ (l2 = true → x2 = .bool true) ∧ (l3 = true → x3 = .agg #[.int .i64 2, .int .i64 2, .slice A n c]) ∧ (l4 = true → l5 = false → ∃ g : Nat, x4 = .slice (some ⟨g, 0, none⟩) 2 2 ∧ Rd u (some ⟨g, 0, none⟩) 2 ([.int .i64 1, .int .i64 3] : List Value)) ∧ (l5 = true → l6 = false → ∃ (A' : Option Addr) (n' c' : Nat), x5 = .agg #[.int .i64 2, .int .i64 2, .slice A' n' c'] ∧ Rd u A' n' ((lfB [1, 3]).map Value.bool)) ∧ (l6 = true → x6 = .bool true) ∧ (l7 = true → x7 = .bool true) ∧ (l8 = true → x8 = .bool true) ∧ (l9 = true → x9 = .int .i64 0) ∧ (l10 = true → x10 = .bool true) ∧ (l11 = true → x11 = .bool true) ∧ (l12 = true → x12 = .bool true) ∧ (l13 = true → x13 = .agg #[.int .u8 1, .int .i64 1]) ∧ (l14 = true → x14 = .agg #[.int .u8 1, .int .i64 1]) ∧ (l15 = true → x15 = .bool true) ∧ (l16 = true → x16 = .bool true) ∧ (l17 = true → x17 = .bool true) ∧ (l18 = true → x18 = .int .i64 0) ∧ (l19 = true → x19 = .bool true) ∧ (l20 = true → x20 = .bool true) ∧ (l21 = true → x21 = .bool true) ∧ (l22 = true → x22 = .slice Am 2 cm) ∧ (l23 = true → x23 = .agg #[.int .u8 2, .slice none 0 0]) ∧ (l24 = true → l25 = false → ∃ g : Nat, x24 = .agg #[.int .u8 1, .slice (some ⟨g, 0, none⟩) 2 2] ∧ Rd u (some ⟨g, 0, none⟩) 2 ((liftB 2).map Value.bool)) ∧ (l25 = true → l26 = false → ∃ g : Nat, x25 = .slice (some ⟨g, 0, none⟩) 2 2 ∧ LogR u (some ⟨g, 0, none⟩) 2 [(2, []), (1, liftB 2)]) ∧ (l26 = true → x26 = .bool true) ∧ (l27 = true → x27 = .bool true) ∧ (l28 = true → x28 = .bool true) := hyp
theorem AL_mk (Wd : World) (p1 p3 n c cm : Nat) (A Am : Option Addr) {l0 l1 l2 l3 l4 l5 l6 l7 l8 l9 l10 l11 l12 l13 l14 l15 l16 l17 l18 l19 l20 l21 l22 l23 l24 l25 l26 l27 l28 : Bool} {x0 x1 x2 x3 x4 x5 x6 x7 x8 x9 x10 x11 x12 x13 x14 x15 x16 x17 x18 x19 x20 x21 x22 x23 x24 x25 x26 x27 x28 : Value} {u : World} (hyp : (Below Wd.heap.size Wd u) ∧ (l0 = true → x0 = .int .i64 0) ∧ (l1 = true → x1 = .bool true) ∧ (l2 = true → x2 = .bool true) ∧ (l3 = true → x3 = .agg #[.int .i64 2, .int .i64 2, .slice A n c]) ∧ (l4 = true → l5 = false → ∃ g : Nat, x4 = .slice (some ⟨g, 0, none⟩) 2 2 ∧ Rd u (some ⟨g, 0, none⟩) 2 ([.int .i64 1, .int .i64 3] : List Value)) ∧ (l5 = true → l6 = false → ∃ (A' : Option Addr) (n' c' : Nat), x5 = .agg #[.int .i64 2, .int .i64 2, .slice A' n' c'] ∧ Rd u A' n' ((lfB [1, 3]).map Value.bool)) ∧ (l6 = true → x6 = .bool true) ∧ (l7 = true → x7 = .bool true) ∧ (l8 = true → x8 = .bool true) ∧ (l9 = true → x9 = .int .i64 0) ∧ (l10 = true → x10 = .bool true) ∧ (l11 = true → x11 = .bool true) ∧ (l12 = true → x12 = .bool true) ∧ (l13 = true → x13 = .agg #[.int .u8 1, .int .i64 1]) ∧ (l14 = true → x14 = .agg #[.int .u8 1, .int .i64 1]) ∧ (l15 = true → x15 = .bool true) ∧ (l16 = true → x16 = .bool true) ∧ (l17 = true → x17 = .bool true) ∧ (l18 = true → x18 = .int .i64 0) ∧ (l19 = true → x19 = .bool true) ∧ (l20 = true → x20 = .bool true) ∧ (l21 = true → x21 = .bool true) ∧ (l22 = true → x22 = .slice Am 2 cm) ∧ (l23 = true → x23 = .agg #[.int .u8 2, .slice none 0 0]) ∧ (l24 = true → l25 = false → ∃ g : Nat, x24 = .agg #[.int .u8 1, .slice (some ⟨g, 0, none⟩) 2 2] ∧ Rd u (some ⟨g, 0, none⟩) 2 ((liftB 2).map Value.bool)) ∧ (l25 = true → l26 = false → ∃ g : Nat, x25 = .slice (some ⟨g, 0, none⟩) 2 2 ∧ LogR u (some ⟨g, 0, none⟩) 2 [(2, []), (1, liftB 2)]) ∧ (l26 = true → x26 = .bool true) ∧ (l27 = true → x27 = .bool true) ∧ (l28 = true → x28 = .bool true)) : AL Wd p1 p3 n c cm A Am [l0, l1, l2, l3, l4, l5, l6, l7, l8, l9, l10, l11, l12, l13, l14, l15, l16, l17, l18, l19, l20, l21, l22, l23, l24, l25, l26, l27, l28] [x0, x1, x2, x3, x4, x5, x6, x7, x8, x9, x10, x11, x12, x13, x14, x15, x16, x17, x18, x19, x20, x21, x22, x23, x24, x25, x26, x27, x28] u := hyp
theorem AL_b : ∀ l : List Bool, l.length = 29 → ∃ a0 a1 a2 a3 a4 a5 a6 a7 a8 a9 a10 a11 a12 a13 a14 a15 a16 a17 a18 a19 a20 a21 a22 a23 a24 a25 a26 a27 a28, l = [a0, a1, a2, a3, a4, a5, a6, a7, a8, a9, a10, a11, a12, a13, a14, a15, a16, a17, a18, a19, a20, a21, a22, a23, a24, a25, a26, a27, a28]
  | [a0, a1, a2, a3, a4, a5, a6, a7, a8, a9, a10, a11, a12, a13, a14, a15, a16, a17, a18, a19, a20, a21, a22, a23, a24, a25, a26, a27, a28], _ => ⟨a0, a1, a2, a3, a4, a5, a6, a7, a8, a9, a10, a11, a12, a13, a14, a15, a16, a17, a18, a19, a20, a21, a22, a23, a24, a25, a26, a27, a28, rfl⟩
theorem AL_v : ∀ l : List Value, l.length = 29 → ∃ a0 a1 a2 a3 a4 a5 a6 a7 a8 a9 a10 a11 a12 a13 a14 a15 a16 a17 a18 a19 a20 a21 a22 a23 a24 a25 a26 a27 a28, l = [a0, a1, a2, a3, a4, a5, a6, a7, a8, a9, a10, a11, a12, a13, a14, a15, a16, a17, a18, a19, a20, a21, a22, a23, a24, a25, a26, a27, a28]
  | [a0, a1, a2, a3, a4, a5, a6, a7, a8, a9, a10, a11, a12, a13, a14, a15, a16, a17, a18, a19, a20, a21, a22, a23, a24, a25, a26, a27, a28], _ => ⟨a0, a1, a2, a3, a4, a5, a6, a7, a8, a9, a10, a11, a12, a13, a14, a15, a16, a17, a18, a19, a20, a21, a22, a23, a24, a25, a26, a27, a28, rfl⟩
set_option linter.unusedVariables false in
set_option maxHeartbeats 6000000 in
set_option maxRecDepth 100000 in
theorem alive20_any (w : World) : Calls Try.prog 27 #[] w fun e w' => e = .returned (.bool true) ∧ Below w.heap.size w w' := by
  have S0 := St.start w
  have HP := Lib.hid (fun n (h : n = 1 ∨ n = 2 ∨ n = 3) u => lpick_any n u h)
  have HBACK := Lib.hid (fun u => lback_any u)
  go_enter Try.func27, Try.ntmps27
  go_wp2_with fail
  refine (HP.out 1 (by decide) _).mono ?_
  rintro e w1 ⟨g1, rfl, r1, hb1⟩
  have S1 := (S0.keep hb1).addRd r1
  go_wp2_with fail
  refine (HP.out 2 (by decide) _).mono ?_
  rintro e w2 ⟨g2, rfl, r2, hb2⟩
  have S2 := (S1.keep hb2).addRd r2
  go_wp2_with fail
  refine (HBACK.out _).mono ?_
  rintro e w3 ⟨rfl, hb3⟩
  have S3 := S2.keep hb3
  go_wp2_with fail
  refine (HP.out 3 (by decide) _).mono ?_
  rintro e w4 ⟨g4, rfl, r4, hb4⟩
  have S4 := ((S3.keep hb4).addRd r4).box #[.int .u8 1, .slice (some ⟨g1, 0, none⟩) 2 2, .int .u8 1, .slice (some ⟨g2, 0, none⟩) 2 2, .int .u8 2, .slice none 0 0, .int .u8 1, .slice (some ⟨g4, 0, none⟩) 2 2] 59
  simp only [List.cons_append, List.nil_append] at S4
  clear S0 S1 S2 S3 hb1 hb2 hb3 hb4 r1 r2 r4
  go_wp2_with fail
  refine (a_replay _ _ (log_four (S4.blk 3 rfl) (S4.rd 0 rfl) (S4.rd 1 rfl) (S4.rd 2 rfl))).mono ?_
  rintro e w5 ⟨A, n, c, rfl, hr5, hc5, hb5⟩
  have S5 := (((S4.keep hb5).sub (L' := []) (by simp)).addRd hr5).box #[.int .i64 2, .int .i64 2, .slice A n c] 25
  have S6 := S5.box #[.int .i64 1, .int .i64 2, .int .i64 2, .int .i64 3] 3
  simp only [size_alloc1, List.cons_append, List.nil_append] at S6
  clear S4 hr5 hb5 S5 hc5
  go_wp2_with fail
  refine (lf_any [1, 2, 2, 3] 4 4 _ _ rfl (rd_of_blk (S6.blk 2 rfl)) (by decide) (by decide)).mono ?_
  rintro e w6 ⟨B, nB, cB, rfl, hrB, hcB, hb6⟩
  have S7 := ((S6.keep hb6).addRd hrB).box #[.int .i64 1, .int .i64 2, .int .i64 3] 3
  simp only [List.cons_append, List.nil_append] at S7
  clear S6 hb6 hrB
  go_wp2_with fail
  refine (lf_any [1, 2, 3] 3 3 _ _ rfl (rd_of_blk (S7.blk 4 rfl)) (by decide) (by decide)).mono ?_
  rintro e w7 ⟨C, nC, cC, rfl, hrC, hcC, hb7⟩
  have S8 := (S7.keep hb7).addRd hrC
  simp only [List.cons_append, List.nil_append] at S8
  clear S7 hb7 hrC
  go_wp2_with fail
  refine (a_find B C nB cB nC cC _ (S8.rd 3 rfl) hcB (S8.rd 5 rfl) hcC).mono ?_
  rintro e w8 ⟨rfl, hb8⟩
  have S9 := (S8.keep hb8).box #[.int .u8 1, .int .i64 1] 46
  have S10 := S9.box #[.int .i64 1, .int .i64 2] 3
  simp only [size_alloc1, List.cons_append, List.nil_append] at S10
  clear S8 S9 hb8 hcB hcC
  go_wp2_with fail
  refine (lf_any [1, 2] 2 2 _ _ rfl (rd_of_blk (S10.blk 7 rfl)) (by decide) (by decide)).mono ?_
  rintro e w9 ⟨Dd, nD, cD, rfl, hrD, hcD, hb9⟩
  have S11 := (S10.keep hb9).addRd hrD
  simp only [List.cons_append, List.nil_append] at S11
  clear S10 hb9 hrD
  go_wp2_with fail
  refine (HP.out 1 (by decide) _).mono ?_
  rintro e w10 ⟨g5, rfl, r5, hb10⟩
  have S12 := (S11.keep hb10).addRd r5
  simp only [List.cons_append, List.nil_append] at S12
  clear S11 hb10 r5
  go_wp2_with fail
  refine (HP.out 3 (by decide) _).mono ?_
  rintro e w11 ⟨g6, rfl, r6, hb11⟩
  have S13 := ((S12.keep hb11).addRd r6).box #[.int .u8 1, .slice (some ⟨g5, 0, none⟩) 2 2, .int .u8 1, .slice (some ⟨g6, 0, none⟩) 2 2] 59
  simp only [List.cons_append, List.nil_append] at S13
  clear S12 hb11 r6
  go_wp2_with fail
  refine (a_mend Dd _ nD cD _ (S13.rd 8 rfl) hcD (log_two (S13.blk 11 rfl) (S13.rd 9 rfl) (S13.rd 10 rfl))).mono ?_
  rintro e w12 ⟨Am, cm, rfl, hlg, hb12⟩
  have S14 := (S13.keep hb12).drew
  clear S13 hb12 hcD
  go_wp2_with fail
  have hlgd := hlg.drew
  have HGRID := Lib.hid (fun u (hu : Below w12.drew.heap.size w12.drew u) => ((S14.blk 1 rfl).keep hu).cell3)
  have HFAULT := Lib.hid (fun u (hu : Below w12.drew.heap.size w12.drew u) => ((S14.blk 6 rfl).keep hu).cell2)
  have HA := Lib.hid (fun u (hu : Below w12.drew.heap.size w12.drew u) => (S14.rd 0 rfl).below hu)
  have HM := Lib.hid (fun u (hu : Below w12.drew.heap.size w12.drew u) => hlgd.below hu)
  have HB0 := Lib.hid (fun u (hu : Below w12.drew.heap.size w12.drew u) => below_then S14.below hu)
  have HL := Lib.hid (fun g u (hr : Rd u (some ⟨g, 0, none⟩) 2 ([.int .i64 1, .int .i64 3] : List Value)) => lf_any [1, 3] 2 2 g u rfl hr (by decide) (by decide))
  have hn : n ≤ 1048576 := by
    have h1 := (S14.rd 0 rfl).len
    rw [List.length_map] at h1
    have h2 : (lfB [1, 3]).length = 4 := by decide
    omega
  have HSAME := Lib.hid (fun (A' : Option Addr) (n' c' : Nat) u (h1 : Rd u A n ((lfB [1, 3]).map Value.bool)) (h2 : Rd u A' n' ((lfB [1, 3]).map Value.bool)) => show Calls Try.prog 21 #[.agg #[.int .i64 2, .int .i64 2, .slice A n c], .agg #[.int .i64 2, .int .i64 2, .slice A' n' c']] u (fun e w' => e = .returned (.bool true) ∧ Below u.heap.size u w') from
    (rsame_any ⟨2, 2, lfB [1, 3]⟩ ⟨2, 2, lfB [1, 3]⟩ A A' n c n' c' u h1 h2 hn).mono fun e w' h => ⟨h.1.trans (by rw [show sameG ⟨2, 2, lfB [1, 3]⟩ ⟨2, 2, lfB [1, 3]⟩ = true from decide_eq_true ⟨rfl, rfl, rfl⟩]), h.2⟩)
  have HPICK := Lib.hid (fun u => HP.out 2 (by decide) u)
  have HESAME := Lib.hid (fun (g : Nat) u (h1 : LogR u Am 2 [(2, []), (1, liftB 2)]) (h2 : LogR u (some ⟨g, 0, none⟩) 2 [(2, []), (1, liftB 2)]) => esame_any [(2, []), (1, liftB 2)] Am (some ⟨g, 0, none⟩) cm 2 2 u h1 h2 (by decide) (by decide))
  clear S14 hlg hlgd HP
  obtain ⟨p1, hp1⟩ : ∃ p, p = w5.heap.size := ⟨_, rfl⟩
  obtain ⟨p3, hp3⟩ : ∃ p, p = w8.heap.size := ⟨_, rfl⟩
  rw [← hp1] at HGRID ⊢
  rw [← hp3] at HFAULT ⊢
  obtain ⟨wd, hwd⟩ : ∃ wd, wd = w12.drew := ⟨_, rfl⟩
  rw [← hwd] at HGRID HFAULT HA HM HB0
  clear hp1 hp3
  refine wp_region_invL 29 [some 33, some 34, some 35, some 36, some 37, some 38, some 39, some 40, some 41, some 42, some 43, some 44, some 45, some 46, some 47, some 48, some 49, some 50, some 51, some 52, some 53, some 54, some 55, some 56, some 57, some 58, some 59, some 60, some 0] (AL wd p1 p3 n c cm A Am) (by kernel_rfl) rfl rfl (by decide) (by kernel_rfl) (fun xs hx => ?_) (fun i hi => ?_) (fun xs wf hx hG => ?_)
  · obtain ⟨x0, x1, x2, x3, x4, x5, x6, x7, x8, x9, x10, x11, x12, x13, x14, x15, x16, x17, x18, x19, x20, x21, x22, x23, x24, x25, x26, x27, x28, rfl⟩ := AL_v xs hx
    show AL wd p1 p3 n c cm A Am [false, false, false, false, false, false, false, false, false, false, false, false, false, false, false, false, false, false, false, false, false, false, false, false, false, false, false, false, false] [x0, x1, x2, x3, x4, x5, x6, x7, x8, x9, x10, x11, x12, x13, x14, x15, x16, x17, x18, x19, x20, x21, x22, x23, x24, x25, x26, x27, x28] _
    refine AL_mk wd p1 p3 n c cm A Am ?_
    exact ⟨hwd ▸ Below.refl _ _, (fun g1 => by cases g1), (fun g1 => by cases g1), (fun g1 => by cases g1), (fun g1 => by cases g1), (fun g1 => by cases g1), (fun g1 => by cases g1), (fun g1 => by cases g1), (fun g1 => by cases g1), (fun g1 => by cases g1), (fun g1 => by cases g1), (fun g1 => by cases g1), (fun g1 => by cases g1), (fun g1 => by cases g1), (fun g1 => by cases g1), (fun g1 => by cases g1), (fun g1 => by cases g1), (fun g1 => by cases g1), (fun g1 => by cases g1), (fun g1 => by cases g1), (fun g1 => by cases g1), (fun g1 => by cases g1), (fun g1 => by cases g1), (fun g1 => by cases g1), (fun g1 => by cases g1), (fun g1 => by cases g1), (fun g1 => by cases g1), (fun g1 => by cases g1), (fun g1 => by cases g1), (fun g1 => by cases g1)⟩
  · match i, hi with
    | 0, _ =>
      intro o ho l xs w1 hl hx hG hi hdep K hK
      obtain rfl := Option.some.inj (ho.symm.trans rfl)
      clear ho
      obtain ⟨l0, l1, l2, l3, l4, l5, l6, l7, l8, l9, l10, l11, l12, l13, l14, l15, l16, l17, l18, l19, l20, l21, l22, l23, l24, l25, l26, l27, l28, rfl⟩ := AL_b l hl
      obtain ⟨x0, x1, x2, x3, x4, x5, x6, x7, x8, x9, x10, x11, x12, x13, x14, x15, x16, x17, x18, x19, x20, x21, x22, x23, x24, x25, x26, x27, x28, rfl⟩ := AL_v xs hx
      obtain rfl : l0 = false := hi
      clear hdep hl hx
      dsimp only [setAll, List.set_cons_zero, List.set_cons_succ] at hK ⊢
      go_simp
      refine hK.out _ _ ?_
      clear hK K
      have hC := AL_get wd p1 p3 n c cm A Am hG
      cases hC
      rename_i SD ez1
      cases ez1
      rename_i h0 ez2
      cases ez2
      rename_i h1 ez3
      cases ez3
      rename_i h2 ez4
      cases ez4
      rename_i h3 ez5
      cases ez5
      rename_i h4 ez6
      cases ez6
      rename_i h5 ez7
      cases ez7
      rename_i h6 ez8
      cases ez8
      rename_i h7 ez9
      cases ez9
      rename_i h8 ez10
      cases ez10
      rename_i h9 ez11
      cases ez11
      rename_i h10 ez12
      cases ez12
      rename_i h11 ez13
      cases ez13
      rename_i h12 ez14
      cases ez14
      rename_i h13 ez15
      cases ez15
      rename_i h14 ez16
      cases ez16
      rename_i h15 ez17
      cases ez17
      rename_i h16 ez18
      cases ez18
      rename_i h17 ez19
      cases ez19
      rename_i h18 ez20
      cases ez20
      rename_i h19 ez21
      cases ez21
      rename_i h20 ez22
      cases ez22
      rename_i h21 ez23
      cases ez23
      rename_i h22 ez24
      cases ez24
      rename_i h23 ez25
      cases ez25
      rename_i h24 ez26
      cases ez26
      rename_i h25 ez27
      cases ez27
      rename_i h26 ez28
      cases ez28
      rename_i h27 h28
      refine AL_mk wd p1 p3 n c cm A Am ?_
      exact ⟨SD, (fun g1 => rfl), h1, h2, h3, h4, h5, h6, h7, h8, h9, h10, h11, h12, h13, h14, h15, h16, h17, h18, h19, h20, h21, h22, h23, h24, h25, h26, h27, h28⟩
    | 1, _ =>
      intro o ho l xs w1 hl hx hG hi hdep K hK
      obtain rfl := Option.some.inj (ho.symm.trans rfl)
      clear ho
      obtain ⟨l0, l1, l2, l3, l4, l5, l6, l7, l8, l9, l10, l11, l12, l13, l14, l15, l16, l17, l18, l19, l20, l21, l22, l23, l24, l25, l26, l27, l28, rfl⟩ := AL_b l hl
      obtain ⟨x0, x1, x2, x3, x4, x5, x6, x7, x8, x9, x10, x11, x12, x13, x14, x15, x16, x17, x18, x19, x20, x21, x22, x23, x24, x25, x26, x27, x28, rfl⟩ := AL_v xs hx
      obtain rfl : l1 = false := hi
      obtain rfl : l0 = true := hdep 0 (by kernel_rfl)
      clear hdep hl hx
      dsimp only [setAll, List.set_cons_zero, List.set_cons_succ] at hK ⊢
      have hf := AL_get wd p1 p3 n c cm A Am hG
      have hF0 := (hf.2.1 rfl)
      clear hf
      subst hF0
      go_simp
      refine hK.out _ _ ?_
      clear hK K
      have hC := AL_get wd p1 p3 n c cm A Am hG
      cases hC
      rename_i SD ez29
      cases ez29
      rename_i h0 ez30
      cases ez30
      rename_i h1 ez31
      cases ez31
      rename_i h2 ez32
      cases ez32
      rename_i h3 ez33
      cases ez33
      rename_i h4 ez34
      cases ez34
      rename_i h5 ez35
      cases ez35
      rename_i h6 ez36
      cases ez36
      rename_i h7 ez37
      cases ez37
      rename_i h8 ez38
      cases ez38
      rename_i h9 ez39
      cases ez39
      rename_i h10 ez40
      cases ez40
      rename_i h11 ez41
      cases ez41
      rename_i h12 ez42
      cases ez42
      rename_i h13 ez43
      cases ez43
      rename_i h14 ez44
      cases ez44
      rename_i h15 ez45
      cases ez45
      rename_i h16 ez46
      cases ez46
      rename_i h17 ez47
      cases ez47
      rename_i h18 ez48
      cases ez48
      rename_i h19 ez49
      cases ez49
      rename_i h20 ez50
      cases ez50
      rename_i h21 ez51
      cases ez51
      rename_i h22 ez52
      cases ez52
      rename_i h23 ez53
      cases ez53
      rename_i h24 ez54
      cases ez54
      rename_i h25 ez55
      cases ez55
      rename_i h26 ez56
      cases ez56
      rename_i h27 h28
      refine AL_mk wd p1 p3 n c cm A Am ?_
      exact ⟨SD, h0, (fun g1 => rfl), h2, h3, h4, h5, h6, h7, h8, h9, h10, h11, h12, h13, h14, h15, h16, h17, h18, h19, h20, h21, h22, h23, h24, h25, h26, h27, h28⟩
    | 2, _ =>
      intro o ho l xs w1 hl hx hG hi hdep K hK
      obtain rfl := Option.some.inj (ho.symm.trans rfl)
      clear ho
      obtain ⟨l0, l1, l2, l3, l4, l5, l6, l7, l8, l9, l10, l11, l12, l13, l14, l15, l16, l17, l18, l19, l20, l21, l22, l23, l24, l25, l26, l27, l28, rfl⟩ := AL_b l hl
      obtain ⟨x0, x1, x2, x3, x4, x5, x6, x7, x8, x9, x10, x11, x12, x13, x14, x15, x16, x17, x18, x19, x20, x21, x22, x23, x24, x25, x26, x27, x28, rfl⟩ := AL_v xs hx
      obtain rfl : l2 = false := hi
      obtain rfl : l1 = true := hdep 1 (by kernel_rfl)
      clear hdep hl hx
      dsimp only [setAll, List.set_cons_zero, List.set_cons_succ] at hK ⊢
      have hf := AL_get wd p1 p3 n c cm A Am hG
      have hF0 := (hf.2.2.1 rfl)
      clear hf
      subst hF0
      go_simp
      refine hK.out _ _ ?_
      clear hK K
      have hC := AL_get wd p1 p3 n c cm A Am hG
      cases hC
      rename_i SD ez57
      cases ez57
      rename_i h0 ez58
      cases ez58
      rename_i h1 ez59
      cases ez59
      rename_i h2 ez60
      cases ez60
      rename_i h3 ez61
      cases ez61
      rename_i h4 ez62
      cases ez62
      rename_i h5 ez63
      cases ez63
      rename_i h6 ez64
      cases ez64
      rename_i h7 ez65
      cases ez65
      rename_i h8 ez66
      cases ez66
      rename_i h9 ez67
      cases ez67
      rename_i h10 ez68
      cases ez68
      rename_i h11 ez69
      cases ez69
      rename_i h12 ez70
      cases ez70
      rename_i h13 ez71
      cases ez71
      rename_i h14 ez72
      cases ez72
      rename_i h15 ez73
      cases ez73
      rename_i h16 ez74
      cases ez74
      rename_i h17 ez75
      cases ez75
      rename_i h18 ez76
      cases ez76
      rename_i h19 ez77
      cases ez77
      rename_i h20 ez78
      cases ez78
      rename_i h21 ez79
      cases ez79
      rename_i h22 ez80
      cases ez80
      rename_i h23 ez81
      cases ez81
      rename_i h24 ez82
      cases ez82
      rename_i h25 ez83
      cases ez83
      rename_i h26 ez84
      cases ez84
      rename_i h27 h28
      refine AL_mk wd p1 p3 n c cm A Am ?_
      exact ⟨SD, h0, h1, (fun g1 => rfl), h3, h4, h5, h6, h7, h8, h9, h10, h11, h12, h13, h14, h15, h16, h17, h18, h19, h20, h21, h22, h23, h24, h25, h26, h27, h28⟩
    | 3, _ =>
      intro o ho l xs w1 hl hx hG hi hdep K hK
      obtain rfl := Option.some.inj (ho.symm.trans rfl)
      clear ho
      obtain ⟨l0, l1, l2, l3, l4, l5, l6, l7, l8, l9, l10, l11, l12, l13, l14, l15, l16, l17, l18, l19, l20, l21, l22, l23, l24, l25, l26, l27, l28, rfl⟩ := AL_b l hl
      obtain ⟨x0, x1, x2, x3, x4, x5, x6, x7, x8, x9, x10, x11, x12, x13, x14, x15, x16, x17, x18, x19, x20, x21, x22, x23, x24, x25, x26, x27, x28, rfl⟩ := AL_v xs hx
      obtain rfl : l3 = false := hi
      obtain rfl : l2 = true := hdep 2 (by kernel_rfl)
      clear hdep hl hx
      dsimp only [setAll, List.set_cons_zero, List.set_cons_succ] at hK ⊢
      have hf := AL_get wd p1 p3 n c cm A Am hG
      have hF0 := (hf.2.2.2.1 rfl)
      have hF1 := HGRID.out w1 hf.1
      clear hf
      subst hF0
      cases hF1
      rename_i q0 ez85
      cases ez85
      rename_i q1 q2
      go_simp
      refine hK.out _ _ ?_
      clear hK K
      have hC := AL_get wd p1 p3 n c cm A Am hG
      cases hC
      rename_i SD ez86
      cases ez86
      rename_i h0 ez87
      cases ez87
      rename_i h1 ez88
      cases ez88
      rename_i h2 ez89
      cases ez89
      rename_i h3 ez90
      cases ez90
      rename_i h4 ez91
      cases ez91
      rename_i h5 ez92
      cases ez92
      rename_i h6 ez93
      cases ez93
      rename_i h7 ez94
      cases ez94
      rename_i h8 ez95
      cases ez95
      rename_i h9 ez96
      cases ez96
      rename_i h10 ez97
      cases ez97
      rename_i h11 ez98
      cases ez98
      rename_i h12 ez99
      cases ez99
      rename_i h13 ez100
      cases ez100
      rename_i h14 ez101
      cases ez101
      rename_i h15 ez102
      cases ez102
      rename_i h16 ez103
      cases ez103
      rename_i h17 ez104
      cases ez104
      rename_i h18 ez105
      cases ez105
      rename_i h19 ez106
      cases ez106
      rename_i h20 ez107
      cases ez107
      rename_i h21 ez108
      cases ez108
      rename_i h22 ez109
      cases ez109
      rename_i h23 ez110
      cases ez110
      rename_i h24 ez111
      cases ez111
      rename_i h25 ez112
      cases ez112
      rename_i h26 ez113
      cases ez113
      rename_i h27 h28
      refine AL_mk wd p1 p3 n c cm A Am ?_
      exact ⟨SD, h0, h1, h2, (fun g1 => rfl), h4, h5, h6, h7, h8, h9, h10, h11, h12, h13, h14, h15, h16, h17, h18, h19, h20, h21, h22, h23, h24, h25, h26, h27, h28⟩
    | 4, _ =>
      intro o ho l xs w1 hl hx hG hi hdep K hK
      obtain rfl := Option.some.inj (ho.symm.trans rfl)
      clear ho
      obtain ⟨l0, l1, l2, l3, l4, l5, l6, l7, l8, l9, l10, l11, l12, l13, l14, l15, l16, l17, l18, l19, l20, l21, l22, l23, l24, l25, l26, l27, l28, rfl⟩ := AL_b l hl
      obtain ⟨x0, x1, x2, x3, x4, x5, x6, x7, x8, x9, x10, x11, x12, x13, x14, x15, x16, x17, x18, x19, x20, x21, x22, x23, x24, x25, x26, x27, x28, rfl⟩ := AL_v xs hx
      obtain rfl : l4 = false := hi
      obtain rfl : l2 = true := hdep 2 (by kernel_rfl)
      clear hdep hl hx
      dsimp only [setAll, List.set_cons_zero, List.set_cons_succ] at hK ⊢
      have hf := AL_get wd p1 p3 n c cm A Am hG
      have hF0 := (hf.2.2.2.1 rfl)
      clear hf
      subst hF0
      go_simp
      refine hK.out _ _ ?_
      clear hK K
      have hC := AL_get wd p1 p3 n c cm A Am hG
      cases hC
      rename_i SD ez114
      cases ez114
      rename_i h0 ez115
      cases ez115
      rename_i h1 ez116
      cases ez116
      rename_i h2 ez117
      cases ez117
      rename_i h3 ez118
      cases ez118
      rename_i h4 ez119
      cases ez119
      rename_i h5 ez120
      cases ez120
      rename_i h6 ez121
      cases ez121
      rename_i h7 ez122
      cases ez122
      rename_i h8 ez123
      cases ez123
      rename_i h9 ez124
      cases ez124
      rename_i h10 ez125
      cases ez125
      rename_i h11 ez126
      cases ez126
      rename_i h12 ez127
      cases ez127
      rename_i h13 ez128
      cases ez128
      rename_i h14 ez129
      cases ez129
      rename_i h15 ez130
      cases ez130
      rename_i h16 ez131
      cases ez131
      rename_i h17 ez132
      cases ez132
      rename_i h18 ez133
      cases ez133
      rename_i h19 ez134
      cases ez134
      rename_i h20 ez135
      cases ez135
      rename_i h21 ez136
      cases ez136
      rename_i h22 ez137
      cases ez137
      rename_i h23 ez138
      cases ez138
      rename_i h24 ez139
      cases ez139
      rename_i h25 ez140
      cases ez140
      rename_i h26 ez141
      cases ez141
      rename_i h27 h28
      have hb := fun ob => (Below.refl w1.heap.size w1).alloc (Nat.le_refl _) ob
      refine AL_mk wd p1 p3 n c cm A Am ?_
      exact ⟨below_then SD (hb _), (fun g1 => by obtain e := h0 g1; exact e), (fun g1 => by obtain e := h1 g1; exact e), (fun g1 => by obtain e := h2 g1; exact e), (fun g1 => by obtain e := h3 g1; exact e), (fun g1 g2 => ⟨_, rfl, rd_of_blk (cs := #[.int .i64 1, .int .i64 3]) (Blk.new _ _ _)⟩), (fun g1 g2 => by obtain ⟨A', n', c', e, r⟩ := h5 g1 g2; exact ⟨A', n', c', e, r.below (hb _)⟩), (fun g1 => by obtain e := h6 g1; exact e), (fun g1 => by obtain e := h7 g1; exact e), (fun g1 => by obtain e := h8 g1; exact e), (fun g1 => by obtain e := h9 g1; exact e), (fun g1 => by obtain e := h10 g1; exact e), (fun g1 => by obtain e := h11 g1; exact e), (fun g1 => by obtain e := h12 g1; exact e), (fun g1 => by obtain e := h13 g1; exact e), (fun g1 => by obtain e := h14 g1; exact e), (fun g1 => by obtain e := h15 g1; exact e), (fun g1 => by obtain e := h16 g1; exact e), (fun g1 => by obtain e := h17 g1; exact e), (fun g1 => by obtain e := h18 g1; exact e), (fun g1 => by obtain e := h19 g1; exact e), (fun g1 => by obtain e := h20 g1; exact e), (fun g1 => by obtain e := h21 g1; exact e), (fun g1 => by obtain e := h22 g1; exact e), (fun g1 => by obtain e := h23 g1; exact e), (fun g1 g2 => by obtain ⟨g, e, r⟩ := h24 g1 g2; exact ⟨g, e, r.below (hb _)⟩), (fun g1 g2 => by obtain ⟨g, e, r⟩ := h25 g1 g2; exact ⟨g, e, r.below (hb _)⟩), (fun g1 => by obtain e := h26 g1; exact e), (fun g1 => by obtain e := h27 g1; exact e), (fun g1 => by obtain e := h28 g1; exact e)⟩
    | 5, _ =>
      intro o ho l xs w1 hl hx hG hi hdep K hK
      obtain rfl := Option.some.inj (ho.symm.trans rfl)
      clear ho
      obtain ⟨l0, l1, l2, l3, l4, l5, l6, l7, l8, l9, l10, l11, l12, l13, l14, l15, l16, l17, l18, l19, l20, l21, l22, l23, l24, l25, l26, l27, l28, rfl⟩ := AL_b l hl
      obtain ⟨x0, x1, x2, x3, x4, x5, x6, x7, x8, x9, x10, x11, x12, x13, x14, x15, x16, x17, x18, x19, x20, x21, x22, x23, x24, x25, x26, x27, x28, rfl⟩ := AL_v xs hx
      obtain rfl : l5 = false := hi
      obtain rfl : l4 = true := hdep 4 (by kernel_rfl)
      obtain rfl : l2 = true := hdep 2 (by kernel_rfl)
      clear hdep hl hx
      dsimp only [setAll, List.set_cons_zero, List.set_cons_succ] at hK ⊢
      have hf := AL_get wd p1 p3 n c cm A Am hG
      have hF0 := (hf.2.2.2.1 rfl)
      have hF1 := (hf.2.2.2.2.2.1 rfl rfl)
      clear hf
      subst hF0
      cases hF1
      rename_i g ez142
      cases ez142
      rename_i ez143 r4
      subst ez143
      go_simp
      refine (HL.out g w1 r4).mono ?_
      rintro e wz ⟨A', n', c', rfl, hr5, hc5, hbz⟩
      try go_simp
      refine hK.out _ _ ?_
      clear hK K
      have hC := AL_get wd p1 p3 n c cm A Am hG
      cases hC
      rename_i SD ez144
      cases ez144
      rename_i h0 ez145
      cases ez145
      rename_i h1 ez146
      cases ez146
      rename_i h2 ez147
      cases ez147
      rename_i h3 ez148
      cases ez148
      rename_i h4 ez149
      cases ez149
      rename_i h5 ez150
      cases ez150
      rename_i h6 ez151
      cases ez151
      rename_i h7 ez152
      cases ez152
      rename_i h8 ez153
      cases ez153
      rename_i h9 ez154
      cases ez154
      rename_i h10 ez155
      cases ez155
      rename_i h11 ez156
      cases ez156
      rename_i h12 ez157
      cases ez157
      rename_i h13 ez158
      cases ez158
      rename_i h14 ez159
      cases ez159
      rename_i h15 ez160
      cases ez160
      rename_i h16 ez161
      cases ez161
      rename_i h17 ez162
      cases ez162
      rename_i h18 ez163
      cases ez163
      rename_i h19 ez164
      cases ez164
      rename_i h20 ez165
      cases ez165
      rename_i h21 ez166
      cases ez166
      rename_i h22 ez167
      cases ez167
      rename_i h23 ez168
      cases ez168
      rename_i h24 ez169
      cases ez169
      rename_i h25 ez170
      cases ez170
      rename_i h26 ez171
      cases ez171
      rename_i h27 h28
      have hb := hbz
      refine AL_mk wd p1 p3 n c cm A Am ?_
      exact ⟨below_then SD hb, (fun g1 => by obtain e := h0 g1; exact e), (fun g1 => by obtain e := h1 g1; exact e), (fun g1 => by obtain e := h2 g1; exact e), (fun g1 => by obtain e := h3 g1; exact e), (fun _ g2 => by cases g2), (fun g1 g2 => ⟨_, _, _, rfl, hr5⟩), (fun g1 => by obtain e := h6 g1; exact e), (fun g1 => by obtain e := h7 g1; exact e), (fun g1 => by obtain e := h8 g1; exact e), (fun g1 => by obtain e := h9 g1; exact e), (fun g1 => by obtain e := h10 g1; exact e), (fun g1 => by obtain e := h11 g1; exact e), (fun g1 => by obtain e := h12 g1; exact e), (fun g1 => by obtain e := h13 g1; exact e), (fun g1 => by obtain e := h14 g1; exact e), (fun g1 => by obtain e := h15 g1; exact e), (fun g1 => by obtain e := h16 g1; exact e), (fun g1 => by obtain e := h17 g1; exact e), (fun g1 => by obtain e := h18 g1; exact e), (fun g1 => by obtain e := h19 g1; exact e), (fun g1 => by obtain e := h20 g1; exact e), (fun g1 => by obtain e := h21 g1; exact e), (fun g1 => by obtain e := h22 g1; exact e), (fun g1 => by obtain e := h23 g1; exact e), (fun g1 g2 => by obtain ⟨g, e, r⟩ := h24 g1 g2; exact ⟨g, e, r.below hb⟩), (fun g1 g2 => by obtain ⟨g, e, r⟩ := h25 g1 g2; exact ⟨g, e, r.below hb⟩), (fun g1 => by obtain e := h26 g1; exact e), (fun g1 => by obtain e := h27 g1; exact e), (fun g1 => by obtain e := h28 g1; exact e)⟩
    | 6, _ =>
      intro o ho l xs w1 hl hx hG hi hdep K hK
      obtain rfl := Option.some.inj (ho.symm.trans rfl)
      clear ho
      obtain ⟨l0, l1, l2, l3, l4, l5, l6, l7, l8, l9, l10, l11, l12, l13, l14, l15, l16, l17, l18, l19, l20, l21, l22, l23, l24, l25, l26, l27, l28, rfl⟩ := AL_b l hl
      obtain ⟨x0, x1, x2, x3, x4, x5, x6, x7, x8, x9, x10, x11, x12, x13, x14, x15, x16, x17, x18, x19, x20, x21, x22, x23, x24, x25, x26, x27, x28, rfl⟩ := AL_v xs hx
      obtain rfl : l6 = false := hi
      obtain rfl : l3 = true := hdep 3 (by kernel_rfl)
      obtain rfl : l5 = true := hdep 5 (by kernel_rfl)
      obtain rfl : l2 = true := hdep 2 (by kernel_rfl)
      clear hdep hl hx
      dsimp only [setAll, List.set_cons_zero, List.set_cons_succ] at hK ⊢
      have hf := AL_get wd p1 p3 n c cm A Am hG
      have hA := HA.out w1 hf.1
      have hF1 := (hf.2.2.2.1 rfl)
      have hF2 := (hf.2.2.2.2.1 rfl)
      have hF3 := (hf.2.2.2.2.2.2.1 rfl rfl)
      clear hf
      subst hF1
      subst hF2
      cases hF3
      rename_i A' ez172
      cases ez172
      rename_i n' ez173
      cases ez173
      rename_i c' ez174
      cases ez174
      rename_i ez175 r5
      subst ez175
      go_simp
      refine (HSAME.out A' n' c' w1 hA r5).mono ?_
      rintro e wz ⟨rfl, hbz⟩
      try go_simp
      refine hK.out _ _ ?_
      clear hK K
      have hC := AL_get wd p1 p3 n c cm A Am hG
      cases hC
      rename_i SD ez176
      cases ez176
      rename_i h0 ez177
      cases ez177
      rename_i h1 ez178
      cases ez178
      rename_i h2 ez179
      cases ez179
      rename_i h3 ez180
      cases ez180
      rename_i h4 ez181
      cases ez181
      rename_i h5 ez182
      cases ez182
      rename_i h6 ez183
      cases ez183
      rename_i h7 ez184
      cases ez184
      rename_i h8 ez185
      cases ez185
      rename_i h9 ez186
      cases ez186
      rename_i h10 ez187
      cases ez187
      rename_i h11 ez188
      cases ez188
      rename_i h12 ez189
      cases ez189
      rename_i h13 ez190
      cases ez190
      rename_i h14 ez191
      cases ez191
      rename_i h15 ez192
      cases ez192
      rename_i h16 ez193
      cases ez193
      rename_i h17 ez194
      cases ez194
      rename_i h18 ez195
      cases ez195
      rename_i h19 ez196
      cases ez196
      rename_i h20 ez197
      cases ez197
      rename_i h21 ez198
      cases ez198
      rename_i h22 ez199
      cases ez199
      rename_i h23 ez200
      cases ez200
      rename_i h24 ez201
      cases ez201
      rename_i h25 ez202
      cases ez202
      rename_i h26 ez203
      cases ez203
      rename_i h27 h28
      have hb := hbz
      refine AL_mk wd p1 p3 n c cm A Am ?_
      exact ⟨below_then SD hb, (fun g1 => by obtain e := h0 g1; exact e), (fun g1 => by obtain e := h1 g1; exact e), (fun g1 => by obtain e := h2 g1; exact e), (fun g1 => by obtain e := h3 g1; exact e), (fun _ g2 => by cases g2), (fun _ g2 => by cases g2), (fun g1 => rfl), (fun g1 => by obtain e := h7 g1; exact e), (fun g1 => by obtain e := h8 g1; exact e), (fun g1 => by obtain e := h9 g1; exact e), (fun g1 => by obtain e := h10 g1; exact e), (fun g1 => by obtain e := h11 g1; exact e), (fun g1 => by obtain e := h12 g1; exact e), (fun g1 => by obtain e := h13 g1; exact e), (fun g1 => by obtain e := h14 g1; exact e), (fun g1 => by obtain e := h15 g1; exact e), (fun g1 => by obtain e := h16 g1; exact e), (fun g1 => by obtain e := h17 g1; exact e), (fun g1 => by obtain e := h18 g1; exact e), (fun g1 => by obtain e := h19 g1; exact e), (fun g1 => by obtain e := h20 g1; exact e), (fun g1 => by obtain e := h21 g1; exact e), (fun g1 => by obtain e := h22 g1; exact e), (fun g1 => by obtain e := h23 g1; exact e), (fun g1 g2 => by obtain ⟨g, e, r⟩ := h24 g1 g2; exact ⟨g, e, r.below hb⟩), (fun g1 g2 => by obtain ⟨g, e, r⟩ := h25 g1 g2; exact ⟨g, e, r.below hb⟩), (fun g1 => by obtain e := h26 g1; exact e), (fun g1 => by obtain e := h27 g1; exact e), (fun g1 => by obtain e := h28 g1; exact e)⟩
    | 7, _ =>
      intro o ho l xs w1 hl hx hG hi hdep K hK
      obtain rfl := Option.some.inj (ho.symm.trans rfl)
      clear ho
      obtain ⟨l0, l1, l2, l3, l4, l5, l6, l7, l8, l9, l10, l11, l12, l13, l14, l15, l16, l17, l18, l19, l20, l21, l22, l23, l24, l25, l26, l27, l28, rfl⟩ := AL_b l hl
      obtain ⟨x0, x1, x2, x3, x4, x5, x6, x7, x8, x9, x10, x11, x12, x13, x14, x15, x16, x17, x18, x19, x20, x21, x22, x23, x24, x25, x26, x27, x28, rfl⟩ := AL_v xs hx
      obtain rfl : l7 = false := hi
      obtain rfl : l2 = true := hdep 2 (by kernel_rfl)
      obtain rfl : l6 = true := hdep 6 (by kernel_rfl)
      clear hdep hl hx
      dsimp only [setAll, List.set_cons_zero, List.set_cons_succ] at hK ⊢
      have hf := AL_get wd p1 p3 n c cm A Am hG
      have hF0 := (hf.2.2.2.1 rfl)
      have hF1 := (hf.2.2.2.2.2.2.2.1 rfl)
      clear hf
      subst hF0
      subst hF1
      go_simp
      refine hK.out _ _ ?_
      clear hK K
      have hC := AL_get wd p1 p3 n c cm A Am hG
      cases hC
      rename_i SD ez204
      cases ez204
      rename_i h0 ez205
      cases ez205
      rename_i h1 ez206
      cases ez206
      rename_i h2 ez207
      cases ez207
      rename_i h3 ez208
      cases ez208
      rename_i h4 ez209
      cases ez209
      rename_i h5 ez210
      cases ez210
      rename_i h6 ez211
      cases ez211
      rename_i h7 ez212
      cases ez212
      rename_i h8 ez213
      cases ez213
      rename_i h9 ez214
      cases ez214
      rename_i h10 ez215
      cases ez215
      rename_i h11 ez216
      cases ez216
      rename_i h12 ez217
      cases ez217
      rename_i h13 ez218
      cases ez218
      rename_i h14 ez219
      cases ez219
      rename_i h15 ez220
      cases ez220
      rename_i h16 ez221
      cases ez221
      rename_i h17 ez222
      cases ez222
      rename_i h18 ez223
      cases ez223
      rename_i h19 ez224
      cases ez224
      rename_i h20 ez225
      cases ez225
      rename_i h21 ez226
      cases ez226
      rename_i h22 ez227
      cases ez227
      rename_i h23 ez228
      cases ez228
      rename_i h24 ez229
      cases ez229
      rename_i h25 ez230
      cases ez230
      rename_i h26 ez231
      cases ez231
      rename_i h27 h28
      refine AL_mk wd p1 p3 n c cm A Am ?_
      exact ⟨SD, h0, h1, h2, h3, h4, (fun _ g2 => by cases g2), h6, (fun g1 => rfl), h8, h9, h10, h11, h12, h13, h14, h15, h16, h17, h18, h19, h20, h21, h22, h23, h24, h25, h26, h27, h28⟩
    | 8, _ =>
      intro o ho l xs w1 hl hx hG hi hdep K hK
      obtain rfl := Option.some.inj (ho.symm.trans rfl)
      clear ho
      obtain ⟨l0, l1, l2, l3, l4, l5, l6, l7, l8, l9, l10, l11, l12, l13, l14, l15, l16, l17, l18, l19, l20, l21, l22, l23, l24, l25, l26, l27, l28, rfl⟩ := AL_b l hl
      obtain ⟨x0, x1, x2, x3, x4, x5, x6, x7, x8, x9, x10, x11, x12, x13, x14, x15, x16, x17, x18, x19, x20, x21, x22, x23, x24, x25, x26, x27, x28, rfl⟩ := AL_v xs hx
      obtain rfl : l8 = false := hi
      obtain rfl : l7 = true := hdep 7 (by kernel_rfl)
      obtain rfl : l6 = true := hdep 6 (by kernel_rfl)
      clear hdep hl hx
      dsimp only [setAll, List.set_cons_zero, List.set_cons_succ] at hK ⊢
      have hf := AL_get wd p1 p3 n c cm A Am hG
      have hF0 := (hf.2.2.2.2.2.2.2.2.1 rfl)
      have hF1 := (hf.2.2.2.2.2.2.2.1 rfl)
      clear hf
      subst hF0
      subst hF1
      go_simp
      refine hK.out _ _ ?_
      clear hK K
      have hC := AL_get wd p1 p3 n c cm A Am hG
      cases hC
      rename_i SD ez232
      cases ez232
      rename_i h0 ez233
      cases ez233
      rename_i h1 ez234
      cases ez234
      rename_i h2 ez235
      cases ez235
      rename_i h3 ez236
      cases ez236
      rename_i h4 ez237
      cases ez237
      rename_i h5 ez238
      cases ez238
      rename_i h6 ez239
      cases ez239
      rename_i h7 ez240
      cases ez240
      rename_i h8 ez241
      cases ez241
      rename_i h9 ez242
      cases ez242
      rename_i h10 ez243
      cases ez243
      rename_i h11 ez244
      cases ez244
      rename_i h12 ez245
      cases ez245
      rename_i h13 ez246
      cases ez246
      rename_i h14 ez247
      cases ez247
      rename_i h15 ez248
      cases ez248
      rename_i h16 ez249
      cases ez249
      rename_i h17 ez250
      cases ez250
      rename_i h18 ez251
      cases ez251
      rename_i h19 ez252
      cases ez252
      rename_i h20 ez253
      cases ez253
      rename_i h21 ez254
      cases ez254
      rename_i h22 ez255
      cases ez255
      rename_i h23 ez256
      cases ez256
      rename_i h24 ez257
      cases ez257
      rename_i h25 ez258
      cases ez258
      rename_i h26 ez259
      cases ez259
      rename_i h27 h28
      refine AL_mk wd p1 p3 n c cm A Am ?_
      exact ⟨SD, h0, h1, h2, h3, h4, (fun _ g2 => by cases g2), h6, h7, (fun g1 => rfl), h9, h10, h11, h12, h13, h14, h15, h16, h17, h18, h19, h20, h21, h22, h23, h24, h25, h26, h27, h28⟩
    | 9, _ =>
      intro o ho l xs w1 hl hx hG hi hdep K hK
      obtain rfl := Option.some.inj (ho.symm.trans rfl)
      clear ho
      obtain ⟨l0, l1, l2, l3, l4, l5, l6, l7, l8, l9, l10, l11, l12, l13, l14, l15, l16, l17, l18, l19, l20, l21, l22, l23, l24, l25, l26, l27, l28, rfl⟩ := AL_b l hl
      obtain ⟨x0, x1, x2, x3, x4, x5, x6, x7, x8, x9, x10, x11, x12, x13, x14, x15, x16, x17, x18, x19, x20, x21, x22, x23, x24, x25, x26, x27, x28, rfl⟩ := AL_v xs hx
      obtain rfl : l9 = false := hi
      obtain rfl : l8 = true := hdep 8 (by kernel_rfl)
      clear hdep hl hx
      dsimp only [setAll, List.set_cons_zero, List.set_cons_succ] at hK ⊢
      have hf := AL_get wd p1 p3 n c cm A Am hG
      have hF0 := (hf.2.2.2.2.2.2.2.2.2.1 rfl)
      clear hf
      subst hF0
      go_simp
      refine hK.out _ _ ?_
      clear hK K
      have hC := AL_get wd p1 p3 n c cm A Am hG
      cases hC
      rename_i SD ez260
      cases ez260
      rename_i h0 ez261
      cases ez261
      rename_i h1 ez262
      cases ez262
      rename_i h2 ez263
      cases ez263
      rename_i h3 ez264
      cases ez264
      rename_i h4 ez265
      cases ez265
      rename_i h5 ez266
      cases ez266
      rename_i h6 ez267
      cases ez267
      rename_i h7 ez268
      cases ez268
      rename_i h8 ez269
      cases ez269
      rename_i h9 ez270
      cases ez270
      rename_i h10 ez271
      cases ez271
      rename_i h11 ez272
      cases ez272
      rename_i h12 ez273
      cases ez273
      rename_i h13 ez274
      cases ez274
      rename_i h14 ez275
      cases ez275
      rename_i h15 ez276
      cases ez276
      rename_i h16 ez277
      cases ez277
      rename_i h17 ez278
      cases ez278
      rename_i h18 ez279
      cases ez279
      rename_i h19 ez280
      cases ez280
      rename_i h20 ez281
      cases ez281
      rename_i h21 ez282
      cases ez282
      rename_i h22 ez283
      cases ez283
      rename_i h23 ez284
      cases ez284
      rename_i h24 ez285
      cases ez285
      rename_i h25 ez286
      cases ez286
      rename_i h26 ez287
      cases ez287
      rename_i h27 h28
      refine AL_mk wd p1 p3 n c cm A Am ?_
      exact ⟨SD, h0, h1, h2, h3, h4, h5, h6, h7, h8, (fun g1 => rfl), h10, h11, h12, h13, h14, h15, h16, h17, h18, h19, h20, h21, h22, h23, h24, h25, h26, h27, h28⟩
    | 10, _ =>
      intro o ho l xs w1 hl hx hG hi hdep K hK
      obtain rfl := Option.some.inj (ho.symm.trans rfl)
      clear ho
      obtain ⟨l0, l1, l2, l3, l4, l5, l6, l7, l8, l9, l10, l11, l12, l13, l14, l15, l16, l17, l18, l19, l20, l21, l22, l23, l24, l25, l26, l27, l28, rfl⟩ := AL_b l hl
      obtain ⟨x0, x1, x2, x3, x4, x5, x6, x7, x8, x9, x10, x11, x12, x13, x14, x15, x16, x17, x18, x19, x20, x21, x22, x23, x24, x25, x26, x27, x28, rfl⟩ := AL_v xs hx
      obtain rfl : l10 = false := hi
      obtain rfl : l9 = true := hdep 9 (by kernel_rfl)
      obtain rfl : l8 = true := hdep 8 (by kernel_rfl)
      clear hdep hl hx
      dsimp only [setAll, List.set_cons_zero, List.set_cons_succ] at hK ⊢
      have hf := AL_get wd p1 p3 n c cm A Am hG
      have hF0 := (hf.2.2.2.2.2.2.2.2.2.2.1 rfl)
      have hF1 := (hf.2.2.2.2.2.2.2.2.2.1 rfl)
      clear hf
      subst hF0
      subst hF1
      go_simp
      refine hK.out _ _ ?_
      clear hK K
      have hC := AL_get wd p1 p3 n c cm A Am hG
      cases hC
      rename_i SD ez288
      cases ez288
      rename_i h0 ez289
      cases ez289
      rename_i h1 ez290
      cases ez290
      rename_i h2 ez291
      cases ez291
      rename_i h3 ez292
      cases ez292
      rename_i h4 ez293
      cases ez293
      rename_i h5 ez294
      cases ez294
      rename_i h6 ez295
      cases ez295
      rename_i h7 ez296
      cases ez296
      rename_i h8 ez297
      cases ez297
      rename_i h9 ez298
      cases ez298
      rename_i h10 ez299
      cases ez299
      rename_i h11 ez300
      cases ez300
      rename_i h12 ez301
      cases ez301
      rename_i h13 ez302
      cases ez302
      rename_i h14 ez303
      cases ez303
      rename_i h15 ez304
      cases ez304
      rename_i h16 ez305
      cases ez305
      rename_i h17 ez306
      cases ez306
      rename_i h18 ez307
      cases ez307
      rename_i h19 ez308
      cases ez308
      rename_i h20 ez309
      cases ez309
      rename_i h21 ez310
      cases ez310
      rename_i h22 ez311
      cases ez311
      rename_i h23 ez312
      cases ez312
      rename_i h24 ez313
      cases ez313
      rename_i h25 ez314
      cases ez314
      rename_i h26 ez315
      cases ez315
      rename_i h27 h28
      refine AL_mk wd p1 p3 n c cm A Am ?_
      exact ⟨SD, h0, h1, h2, h3, h4, h5, h6, h7, h8, h9, (fun g1 => rfl), h11, h12, h13, h14, h15, h16, h17, h18, h19, h20, h21, h22, h23, h24, h25, h26, h27, h28⟩
    | 11, _ =>
      intro o ho l xs w1 hl hx hG hi hdep K hK
      obtain rfl := Option.some.inj (ho.symm.trans rfl)
      clear ho
      obtain ⟨l0, l1, l2, l3, l4, l5, l6, l7, l8, l9, l10, l11, l12, l13, l14, l15, l16, l17, l18, l19, l20, l21, l22, l23, l24, l25, l26, l27, l28, rfl⟩ := AL_b l hl
      obtain ⟨x0, x1, x2, x3, x4, x5, x6, x7, x8, x9, x10, x11, x12, x13, x14, x15, x16, x17, x18, x19, x20, x21, x22, x23, x24, x25, x26, x27, x28, rfl⟩ := AL_v xs hx
      obtain rfl : l11 = false := hi
      obtain rfl : l8 = true := hdep 8 (by kernel_rfl)
      obtain rfl : l10 = true := hdep 10 (by kernel_rfl)
      clear hdep hl hx
      dsimp only [setAll, List.set_cons_zero, List.set_cons_succ] at hK ⊢
      have hf := AL_get wd p1 p3 n c cm A Am hG
      have hF0 := (hf.2.2.2.2.2.2.2.2.2.1 rfl)
      have hF1 := (hf.2.2.2.2.2.2.2.2.2.2.2.1 rfl)
      clear hf
      subst hF0
      subst hF1
      go_simp
      refine hK.out _ _ ?_
      clear hK K
      have hC := AL_get wd p1 p3 n c cm A Am hG
      cases hC
      rename_i SD ez316
      cases ez316
      rename_i h0 ez317
      cases ez317
      rename_i h1 ez318
      cases ez318
      rename_i h2 ez319
      cases ez319
      rename_i h3 ez320
      cases ez320
      rename_i h4 ez321
      cases ez321
      rename_i h5 ez322
      cases ez322
      rename_i h6 ez323
      cases ez323
      rename_i h7 ez324
      cases ez324
      rename_i h8 ez325
      cases ez325
      rename_i h9 ez326
      cases ez326
      rename_i h10 ez327
      cases ez327
      rename_i h11 ez328
      cases ez328
      rename_i h12 ez329
      cases ez329
      rename_i h13 ez330
      cases ez330
      rename_i h14 ez331
      cases ez331
      rename_i h15 ez332
      cases ez332
      rename_i h16 ez333
      cases ez333
      rename_i h17 ez334
      cases ez334
      rename_i h18 ez335
      cases ez335
      rename_i h19 ez336
      cases ez336
      rename_i h20 ez337
      cases ez337
      rename_i h21 ez338
      cases ez338
      rename_i h22 ez339
      cases ez339
      rename_i h23 ez340
      cases ez340
      rename_i h24 ez341
      cases ez341
      rename_i h25 ez342
      cases ez342
      rename_i h26 ez343
      cases ez343
      rename_i h27 h28
      refine AL_mk wd p1 p3 n c cm A Am ?_
      exact ⟨SD, h0, h1, h2, h3, h4, h5, h6, h7, h8, h9, h10, (fun g1 => rfl), h12, h13, h14, h15, h16, h17, h18, h19, h20, h21, h22, h23, h24, h25, h26, h27, h28⟩
    | 12, _ =>
      intro o ho l xs w1 hl hx hG hi hdep K hK
      obtain rfl := Option.some.inj (ho.symm.trans rfl)
      clear ho
      obtain ⟨l0, l1, l2, l3, l4, l5, l6, l7, l8, l9, l10, l11, l12, l13, l14, l15, l16, l17, l18, l19, l20, l21, l22, l23, l24, l25, l26, l27, l28, rfl⟩ := AL_b l hl
      obtain ⟨x0, x1, x2, x3, x4, x5, x6, x7, x8, x9, x10, x11, x12, x13, x14, x15, x16, x17, x18, x19, x20, x21, x22, x23, x24, x25, x26, x27, x28, rfl⟩ := AL_v xs hx
      obtain rfl : l12 = false := hi
      obtain rfl : l11 = true := hdep 11 (by kernel_rfl)
      obtain rfl : l8 = true := hdep 8 (by kernel_rfl)
      clear hdep hl hx
      dsimp only [setAll, List.set_cons_zero, List.set_cons_succ] at hK ⊢
      have hf := AL_get wd p1 p3 n c cm A Am hG
      have hF0 := (hf.2.2.2.2.2.2.2.2.2.2.2.2.1 rfl)
      have hF1 := (hf.2.2.2.2.2.2.2.2.2.1 rfl)
      clear hf
      subst hF0
      subst hF1
      go_simp
      refine hK.out _ _ ?_
      clear hK K
      have hC := AL_get wd p1 p3 n c cm A Am hG
      cases hC
      rename_i SD ez344
      cases ez344
      rename_i h0 ez345
      cases ez345
      rename_i h1 ez346
      cases ez346
      rename_i h2 ez347
      cases ez347
      rename_i h3 ez348
      cases ez348
      rename_i h4 ez349
      cases ez349
      rename_i h5 ez350
      cases ez350
      rename_i h6 ez351
      cases ez351
      rename_i h7 ez352
      cases ez352
      rename_i h8 ez353
      cases ez353
      rename_i h9 ez354
      cases ez354
      rename_i h10 ez355
      cases ez355
      rename_i h11 ez356
      cases ez356
      rename_i h12 ez357
      cases ez357
      rename_i h13 ez358
      cases ez358
      rename_i h14 ez359
      cases ez359
      rename_i h15 ez360
      cases ez360
      rename_i h16 ez361
      cases ez361
      rename_i h17 ez362
      cases ez362
      rename_i h18 ez363
      cases ez363
      rename_i h19 ez364
      cases ez364
      rename_i h20 ez365
      cases ez365
      rename_i h21 ez366
      cases ez366
      rename_i h22 ez367
      cases ez367
      rename_i h23 ez368
      cases ez368
      rename_i h24 ez369
      cases ez369
      rename_i h25 ez370
      cases ez370
      rename_i h26 ez371
      cases ez371
      rename_i h27 h28
      refine AL_mk wd p1 p3 n c cm A Am ?_
      exact ⟨SD, h0, h1, h2, h3, h4, h5, h6, h7, h8, h9, h10, h11, (fun g1 => rfl), h13, h14, h15, h16, h17, h18, h19, h20, h21, h22, h23, h24, h25, h26, h27, h28⟩
    | 13, _ =>
      intro o ho l xs w1 hl hx hG hi hdep K hK
      obtain rfl := Option.some.inj (ho.symm.trans rfl)
      clear ho
      obtain ⟨l0, l1, l2, l3, l4, l5, l6, l7, l8, l9, l10, l11, l12, l13, l14, l15, l16, l17, l18, l19, l20, l21, l22, l23, l24, l25, l26, l27, l28, rfl⟩ := AL_b l hl
      obtain ⟨x0, x1, x2, x3, x4, x5, x6, x7, x8, x9, x10, x11, x12, x13, x14, x15, x16, x17, x18, x19, x20, x21, x22, x23, x24, x25, x26, x27, x28, rfl⟩ := AL_v xs hx
      obtain rfl : l13 = false := hi
      obtain rfl : l12 = true := hdep 12 (by kernel_rfl)
      clear hdep hl hx
      dsimp only [setAll, List.set_cons_zero, List.set_cons_succ] at hK ⊢
      have hf := AL_get wd p1 p3 n c cm A Am hG
      have hF0 := (hf.2.2.2.2.2.2.2.2.2.2.2.2.2.1 rfl)
      have hF1 := HFAULT.out w1 hf.1
      clear hf
      subst hF0
      cases hF1
      rename_i q0 q1
      go_simp
      refine hK.out _ _ ?_
      clear hK K
      have hC := AL_get wd p1 p3 n c cm A Am hG
      cases hC
      rename_i SD ez372
      cases ez372
      rename_i h0 ez373
      cases ez373
      rename_i h1 ez374
      cases ez374
      rename_i h2 ez375
      cases ez375
      rename_i h3 ez376
      cases ez376
      rename_i h4 ez377
      cases ez377
      rename_i h5 ez378
      cases ez378
      rename_i h6 ez379
      cases ez379
      rename_i h7 ez380
      cases ez380
      rename_i h8 ez381
      cases ez381
      rename_i h9 ez382
      cases ez382
      rename_i h10 ez383
      cases ez383
      rename_i h11 ez384
      cases ez384
      rename_i h12 ez385
      cases ez385
      rename_i h13 ez386
      cases ez386
      rename_i h14 ez387
      cases ez387
      rename_i h15 ez388
      cases ez388
      rename_i h16 ez389
      cases ez389
      rename_i h17 ez390
      cases ez390
      rename_i h18 ez391
      cases ez391
      rename_i h19 ez392
      cases ez392
      rename_i h20 ez393
      cases ez393
      rename_i h21 ez394
      cases ez394
      rename_i h22 ez395
      cases ez395
      rename_i h23 ez396
      cases ez396
      rename_i h24 ez397
      cases ez397
      rename_i h25 ez398
      cases ez398
      rename_i h26 ez399
      cases ez399
      rename_i h27 h28
      refine AL_mk wd p1 p3 n c cm A Am ?_
      exact ⟨SD, h0, h1, h2, h3, h4, h5, h6, h7, h8, h9, h10, h11, h12, (fun g1 => rfl), h14, h15, h16, h17, h18, h19, h20, h21, h22, h23, h24, h25, h26, h27, h28⟩
    | 14, _ =>
      intro o ho l xs w1 hl hx hG hi hdep K hK
      obtain rfl := Option.some.inj (ho.symm.trans rfl)
      clear ho
      obtain ⟨l0, l1, l2, l3, l4, l5, l6, l7, l8, l9, l10, l11, l12, l13, l14, l15, l16, l17, l18, l19, l20, l21, l22, l23, l24, l25, l26, l27, l28, rfl⟩ := AL_b l hl
      obtain ⟨x0, x1, x2, x3, x4, x5, x6, x7, x8, x9, x10, x11, x12, x13, x14, x15, x16, x17, x18, x19, x20, x21, x22, x23, x24, x25, x26, x27, x28, rfl⟩ := AL_v xs hx
      obtain rfl : l14 = false := hi
      obtain rfl : l12 = true := hdep 12 (by kernel_rfl)
      clear hdep hl hx
      dsimp only [setAll, List.set_cons_zero, List.set_cons_succ] at hK ⊢
      have hf := AL_get wd p1 p3 n c cm A Am hG
      have hF0 := (hf.2.2.2.2.2.2.2.2.2.2.2.2.2.1 rfl)
      clear hf
      subst hF0
      go_simp
      refine hK.out _ _ ?_
      clear hK K
      have hC := AL_get wd p1 p3 n c cm A Am hG
      cases hC
      rename_i SD ez400
      cases ez400
      rename_i h0 ez401
      cases ez401
      rename_i h1 ez402
      cases ez402
      rename_i h2 ez403
      cases ez403
      rename_i h3 ez404
      cases ez404
      rename_i h4 ez405
      cases ez405
      rename_i h5 ez406
      cases ez406
      rename_i h6 ez407
      cases ez407
      rename_i h7 ez408
      cases ez408
      rename_i h8 ez409
      cases ez409
      rename_i h9 ez410
      cases ez410
      rename_i h10 ez411
      cases ez411
      rename_i h11 ez412
      cases ez412
      rename_i h12 ez413
      cases ez413
      rename_i h13 ez414
      cases ez414
      rename_i h14 ez415
      cases ez415
      rename_i h15 ez416
      cases ez416
      rename_i h16 ez417
      cases ez417
      rename_i h17 ez418
      cases ez418
      rename_i h18 ez419
      cases ez419
      rename_i h19 ez420
      cases ez420
      rename_i h20 ez421
      cases ez421
      rename_i h21 ez422
      cases ez422
      rename_i h22 ez423
      cases ez423
      rename_i h23 ez424
      cases ez424
      rename_i h24 ez425
      cases ez425
      rename_i h25 ez426
      cases ez426
      rename_i h26 ez427
      cases ez427
      rename_i h27 h28
      refine AL_mk wd p1 p3 n c cm A Am ?_
      exact ⟨SD, h0, h1, h2, h3, h4, h5, h6, h7, h8, h9, h10, h11, h12, h13, (fun g1 => rfl), h15, h16, h17, h18, h19, h20, h21, h22, h23, h24, h25, h26, h27, h28⟩
    | 15, _ =>
      intro o ho l xs w1 hl hx hG hi hdep K hK
      obtain rfl := Option.some.inj (ho.symm.trans rfl)
      clear ho
      obtain ⟨l0, l1, l2, l3, l4, l5, l6, l7, l8, l9, l10, l11, l12, l13, l14, l15, l16, l17, l18, l19, l20, l21, l22, l23, l24, l25, l26, l27, l28, rfl⟩ := AL_b l hl
      obtain ⟨x0, x1, x2, x3, x4, x5, x6, x7, x8, x9, x10, x11, x12, x13, x14, x15, x16, x17, x18, x19, x20, x21, x22, x23, x24, x25, x26, x27, x28, rfl⟩ := AL_v xs hx
      obtain rfl : l15 = false := hi
      obtain rfl : l13 = true := hdep 13 (by kernel_rfl)
      obtain rfl : l14 = true := hdep 14 (by kernel_rfl)
      obtain rfl : l12 = true := hdep 12 (by kernel_rfl)
      clear hdep hl hx
      dsimp only [setAll, List.set_cons_zero, List.set_cons_succ] at hK ⊢
      have hf := AL_get wd p1 p3 n c cm A Am hG
      have hF0 := (hf.2.2.2.2.2.2.2.2.2.2.2.2.2.2.1 rfl)
      have hF1 := (hf.2.2.2.2.2.2.2.2.2.2.2.2.2.2.2.1 rfl)
      have hF2 := (hf.2.2.2.2.2.2.2.2.2.2.2.2.2.1 rfl)
      clear hf
      subst hF0
      subst hF1
      subst hF2
      go_simp
      refine hK.out _ _ ?_
      clear hK K
      have hC := AL_get wd p1 p3 n c cm A Am hG
      cases hC
      rename_i SD ez428
      cases ez428
      rename_i h0 ez429
      cases ez429
      rename_i h1 ez430
      cases ez430
      rename_i h2 ez431
      cases ez431
      rename_i h3 ez432
      cases ez432
      rename_i h4 ez433
      cases ez433
      rename_i h5 ez434
      cases ez434
      rename_i h6 ez435
      cases ez435
      rename_i h7 ez436
      cases ez436
      rename_i h8 ez437
      cases ez437
      rename_i h9 ez438
      cases ez438
      rename_i h10 ez439
      cases ez439
      rename_i h11 ez440
      cases ez440
      rename_i h12 ez441
      cases ez441
      rename_i h13 ez442
      cases ez442
      rename_i h14 ez443
      cases ez443
      rename_i h15 ez444
      cases ez444
      rename_i h16 ez445
      cases ez445
      rename_i h17 ez446
      cases ez446
      rename_i h18 ez447
      cases ez447
      rename_i h19 ez448
      cases ez448
      rename_i h20 ez449
      cases ez449
      rename_i h21 ez450
      cases ez450
      rename_i h22 ez451
      cases ez451
      rename_i h23 ez452
      cases ez452
      rename_i h24 ez453
      cases ez453
      rename_i h25 ez454
      cases ez454
      rename_i h26 ez455
      cases ez455
      rename_i h27 h28
      refine AL_mk wd p1 p3 n c cm A Am ?_
      exact ⟨SD, h0, h1, h2, h3, h4, h5, h6, h7, h8, h9, h10, h11, h12, h13, h14, (fun g1 => rfl), h16, h17, h18, h19, h20, h21, h22, h23, h24, h25, h26, h27, h28⟩
    | 16, _ =>
      intro o ho l xs w1 hl hx hG hi hdep K hK
      obtain rfl := Option.some.inj (ho.symm.trans rfl)
      clear ho
      obtain ⟨l0, l1, l2, l3, l4, l5, l6, l7, l8, l9, l10, l11, l12, l13, l14, l15, l16, l17, l18, l19, l20, l21, l22, l23, l24, l25, l26, l27, l28, rfl⟩ := AL_b l hl
      obtain ⟨x0, x1, x2, x3, x4, x5, x6, x7, x8, x9, x10, x11, x12, x13, x14, x15, x16, x17, x18, x19, x20, x21, x22, x23, x24, x25, x26, x27, x28, rfl⟩ := AL_v xs hx
      obtain rfl : l16 = false := hi
      obtain rfl : l12 = true := hdep 12 (by kernel_rfl)
      obtain rfl : l15 = true := hdep 15 (by kernel_rfl)
      clear hdep hl hx
      dsimp only [setAll, List.set_cons_zero, List.set_cons_succ] at hK ⊢
      have hf := AL_get wd p1 p3 n c cm A Am hG
      have hF0 := (hf.2.2.2.2.2.2.2.2.2.2.2.2.2.1 rfl)
      have hF1 := (hf.2.2.2.2.2.2.2.2.2.2.2.2.2.2.2.2.1 rfl)
      clear hf
      subst hF0
      subst hF1
      go_simp
      refine hK.out _ _ ?_
      clear hK K
      have hC := AL_get wd p1 p3 n c cm A Am hG
      cases hC
      rename_i SD ez456
      cases ez456
      rename_i h0 ez457
      cases ez457
      rename_i h1 ez458
      cases ez458
      rename_i h2 ez459
      cases ez459
      rename_i h3 ez460
      cases ez460
      rename_i h4 ez461
      cases ez461
      rename_i h5 ez462
      cases ez462
      rename_i h6 ez463
      cases ez463
      rename_i h7 ez464
      cases ez464
      rename_i h8 ez465
      cases ez465
      rename_i h9 ez466
      cases ez466
      rename_i h10 ez467
      cases ez467
      rename_i h11 ez468
      cases ez468
      rename_i h12 ez469
      cases ez469
      rename_i h13 ez470
      cases ez470
      rename_i h14 ez471
      cases ez471
      rename_i h15 ez472
      cases ez472
      rename_i h16 ez473
      cases ez473
      rename_i h17 ez474
      cases ez474
      rename_i h18 ez475
      cases ez475
      rename_i h19 ez476
      cases ez476
      rename_i h20 ez477
      cases ez477
      rename_i h21 ez478
      cases ez478
      rename_i h22 ez479
      cases ez479
      rename_i h23 ez480
      cases ez480
      rename_i h24 ez481
      cases ez481
      rename_i h25 ez482
      cases ez482
      rename_i h26 ez483
      cases ez483
      rename_i h27 h28
      refine AL_mk wd p1 p3 n c cm A Am ?_
      exact ⟨SD, h0, h1, h2, h3, h4, h5, h6, h7, h8, h9, h10, h11, h12, h13, h14, h15, (fun g1 => rfl), h17, h18, h19, h20, h21, h22, h23, h24, h25, h26, h27, h28⟩
    | 17, _ =>
      intro o ho l xs w1 hl hx hG hi hdep K hK
      obtain rfl := Option.some.inj (ho.symm.trans rfl)
      clear ho
      obtain ⟨l0, l1, l2, l3, l4, l5, l6, l7, l8, l9, l10, l11, l12, l13, l14, l15, l16, l17, l18, l19, l20, l21, l22, l23, l24, l25, l26, l27, l28, rfl⟩ := AL_b l hl
      obtain ⟨x0, x1, x2, x3, x4, x5, x6, x7, x8, x9, x10, x11, x12, x13, x14, x15, x16, x17, x18, x19, x20, x21, x22, x23, x24, x25, x26, x27, x28, rfl⟩ := AL_v xs hx
      obtain rfl : l17 = false := hi
      obtain rfl : l16 = true := hdep 16 (by kernel_rfl)
      obtain rfl : l12 = true := hdep 12 (by kernel_rfl)
      clear hdep hl hx
      dsimp only [setAll, List.set_cons_zero, List.set_cons_succ] at hK ⊢
      have hf := AL_get wd p1 p3 n c cm A Am hG
      have hF0 := (hf.2.2.2.2.2.2.2.2.2.2.2.2.2.2.2.2.2.1 rfl)
      have hF1 := (hf.2.2.2.2.2.2.2.2.2.2.2.2.2.1 rfl)
      clear hf
      subst hF0
      subst hF1
      go_simp
      refine hK.out _ _ ?_
      clear hK K
      have hC := AL_get wd p1 p3 n c cm A Am hG
      cases hC
      rename_i SD ez484
      cases ez484
      rename_i h0 ez485
      cases ez485
      rename_i h1 ez486
      cases ez486
      rename_i h2 ez487
      cases ez487
      rename_i h3 ez488
      cases ez488
      rename_i h4 ez489
      cases ez489
      rename_i h5 ez490
      cases ez490
      rename_i h6 ez491
      cases ez491
      rename_i h7 ez492
      cases ez492
      rename_i h8 ez493
      cases ez493
      rename_i h9 ez494
      cases ez494
      rename_i h10 ez495
      cases ez495
      rename_i h11 ez496
      cases ez496
      rename_i h12 ez497
      cases ez497
      rename_i h13 ez498
      cases ez498
      rename_i h14 ez499
      cases ez499
      rename_i h15 ez500
      cases ez500
      rename_i h16 ez501
      cases ez501
      rename_i h17 ez502
      cases ez502
      rename_i h18 ez503
      cases ez503
      rename_i h19 ez504
      cases ez504
      rename_i h20 ez505
      cases ez505
      rename_i h21 ez506
      cases ez506
      rename_i h22 ez507
      cases ez507
      rename_i h23 ez508
      cases ez508
      rename_i h24 ez509
      cases ez509
      rename_i h25 ez510
      cases ez510
      rename_i h26 ez511
      cases ez511
      rename_i h27 h28
      refine AL_mk wd p1 p3 n c cm A Am ?_
      exact ⟨SD, h0, h1, h2, h3, h4, h5, h6, h7, h8, h9, h10, h11, h12, h13, h14, h15, h16, (fun g1 => rfl), h18, h19, h20, h21, h22, h23, h24, h25, h26, h27, h28⟩
    | 18, _ =>
      intro o ho l xs w1 hl hx hG hi hdep K hK
      obtain rfl := Option.some.inj (ho.symm.trans rfl)
      clear ho
      obtain ⟨l0, l1, l2, l3, l4, l5, l6, l7, l8, l9, l10, l11, l12, l13, l14, l15, l16, l17, l18, l19, l20, l21, l22, l23, l24, l25, l26, l27, l28, rfl⟩ := AL_b l hl
      obtain ⟨x0, x1, x2, x3, x4, x5, x6, x7, x8, x9, x10, x11, x12, x13, x14, x15, x16, x17, x18, x19, x20, x21, x22, x23, x24, x25, x26, x27, x28, rfl⟩ := AL_v xs hx
      obtain rfl : l18 = false := hi
      obtain rfl : l17 = true := hdep 17 (by kernel_rfl)
      clear hdep hl hx
      dsimp only [setAll, List.set_cons_zero, List.set_cons_succ] at hK ⊢
      have hf := AL_get wd p1 p3 n c cm A Am hG
      have hF0 := (hf.2.2.2.2.2.2.2.2.2.2.2.2.2.2.2.2.2.2.1 rfl)
      clear hf
      subst hF0
      go_simp
      refine hK.out _ _ ?_
      clear hK K
      have hC := AL_get wd p1 p3 n c cm A Am hG
      cases hC
      rename_i SD ez512
      cases ez512
      rename_i h0 ez513
      cases ez513
      rename_i h1 ez514
      cases ez514
      rename_i h2 ez515
      cases ez515
      rename_i h3 ez516
      cases ez516
      rename_i h4 ez517
      cases ez517
      rename_i h5 ez518
      cases ez518
      rename_i h6 ez519
      cases ez519
      rename_i h7 ez520
      cases ez520
      rename_i h8 ez521
      cases ez521
      rename_i h9 ez522
      cases ez522
      rename_i h10 ez523
      cases ez523
      rename_i h11 ez524
      cases ez524
      rename_i h12 ez525
      cases ez525
      rename_i h13 ez526
      cases ez526
      rename_i h14 ez527
      cases ez527
      rename_i h15 ez528
      cases ez528
      rename_i h16 ez529
      cases ez529
      rename_i h17 ez530
      cases ez530
      rename_i h18 ez531
      cases ez531
      rename_i h19 ez532
      cases ez532
      rename_i h20 ez533
      cases ez533
      rename_i h21 ez534
      cases ez534
      rename_i h22 ez535
      cases ez535
      rename_i h23 ez536
      cases ez536
      rename_i h24 ez537
      cases ez537
      rename_i h25 ez538
      cases ez538
      rename_i h26 ez539
      cases ez539
      rename_i h27 h28
      refine AL_mk wd p1 p3 n c cm A Am ?_
      exact ⟨SD, h0, h1, h2, h3, h4, h5, h6, h7, h8, h9, h10, h11, h12, h13, h14, h15, h16, h17, (fun g1 => rfl), h19, h20, h21, h22, h23, h24, h25, h26, h27, h28⟩
    | 19, _ =>
      intro o ho l xs w1 hl hx hG hi hdep K hK
      obtain rfl := Option.some.inj (ho.symm.trans rfl)
      clear ho
      obtain ⟨l0, l1, l2, l3, l4, l5, l6, l7, l8, l9, l10, l11, l12, l13, l14, l15, l16, l17, l18, l19, l20, l21, l22, l23, l24, l25, l26, l27, l28, rfl⟩ := AL_b l hl
      obtain ⟨x0, x1, x2, x3, x4, x5, x6, x7, x8, x9, x10, x11, x12, x13, x14, x15, x16, x17, x18, x19, x20, x21, x22, x23, x24, x25, x26, x27, x28, rfl⟩ := AL_v xs hx
      obtain rfl : l19 = false := hi
      obtain rfl : l18 = true := hdep 18 (by kernel_rfl)
      obtain rfl : l17 = true := hdep 17 (by kernel_rfl)
      clear hdep hl hx
      dsimp only [setAll, List.set_cons_zero, List.set_cons_succ] at hK ⊢
      have hf := AL_get wd p1 p3 n c cm A Am hG
      have hF0 := (hf.2.2.2.2.2.2.2.2.2.2.2.2.2.2.2.2.2.2.2.1 rfl)
      have hF1 := (hf.2.2.2.2.2.2.2.2.2.2.2.2.2.2.2.2.2.2.1 rfl)
      clear hf
      subst hF0
      subst hF1
      go_simp
      refine hK.out _ _ ?_
      clear hK K
      have hC := AL_get wd p1 p3 n c cm A Am hG
      cases hC
      rename_i SD ez540
      cases ez540
      rename_i h0 ez541
      cases ez541
      rename_i h1 ez542
      cases ez542
      rename_i h2 ez543
      cases ez543
      rename_i h3 ez544
      cases ez544
      rename_i h4 ez545
      cases ez545
      rename_i h5 ez546
      cases ez546
      rename_i h6 ez547
      cases ez547
      rename_i h7 ez548
      cases ez548
      rename_i h8 ez549
      cases ez549
      rename_i h9 ez550
      cases ez550
      rename_i h10 ez551
      cases ez551
      rename_i h11 ez552
      cases ez552
      rename_i h12 ez553
      cases ez553
      rename_i h13 ez554
      cases ez554
      rename_i h14 ez555
      cases ez555
      rename_i h15 ez556
      cases ez556
      rename_i h16 ez557
      cases ez557
      rename_i h17 ez558
      cases ez558
      rename_i h18 ez559
      cases ez559
      rename_i h19 ez560
      cases ez560
      rename_i h20 ez561
      cases ez561
      rename_i h21 ez562
      cases ez562
      rename_i h22 ez563
      cases ez563
      rename_i h23 ez564
      cases ez564
      rename_i h24 ez565
      cases ez565
      rename_i h25 ez566
      cases ez566
      rename_i h26 ez567
      cases ez567
      rename_i h27 h28
      refine AL_mk wd p1 p3 n c cm A Am ?_
      exact ⟨SD, h0, h1, h2, h3, h4, h5, h6, h7, h8, h9, h10, h11, h12, h13, h14, h15, h16, h17, h18, (fun g1 => rfl), h20, h21, h22, h23, h24, h25, h26, h27, h28⟩
    | 20, _ =>
      intro o ho l xs w1 hl hx hG hi hdep K hK
      obtain rfl := Option.some.inj (ho.symm.trans rfl)
      clear ho
      obtain ⟨l0, l1, l2, l3, l4, l5, l6, l7, l8, l9, l10, l11, l12, l13, l14, l15, l16, l17, l18, l19, l20, l21, l22, l23, l24, l25, l26, l27, l28, rfl⟩ := AL_b l hl
      obtain ⟨x0, x1, x2, x3, x4, x5, x6, x7, x8, x9, x10, x11, x12, x13, x14, x15, x16, x17, x18, x19, x20, x21, x22, x23, x24, x25, x26, x27, x28, rfl⟩ := AL_v xs hx
      obtain rfl : l20 = false := hi
      obtain rfl : l17 = true := hdep 17 (by kernel_rfl)
      obtain rfl : l19 = true := hdep 19 (by kernel_rfl)
      clear hdep hl hx
      dsimp only [setAll, List.set_cons_zero, List.set_cons_succ] at hK ⊢
      have hf := AL_get wd p1 p3 n c cm A Am hG
      have hF0 := (hf.2.2.2.2.2.2.2.2.2.2.2.2.2.2.2.2.2.2.1 rfl)
      have hF1 := (hf.2.2.2.2.2.2.2.2.2.2.2.2.2.2.2.2.2.2.2.2.1 rfl)
      clear hf
      subst hF0
      subst hF1
      go_simp
      refine hK.out _ _ ?_
      clear hK K
      have hC := AL_get wd p1 p3 n c cm A Am hG
      cases hC
      rename_i SD ez568
      cases ez568
      rename_i h0 ez569
      cases ez569
      rename_i h1 ez570
      cases ez570
      rename_i h2 ez571
      cases ez571
      rename_i h3 ez572
      cases ez572
      rename_i h4 ez573
      cases ez573
      rename_i h5 ez574
      cases ez574
      rename_i h6 ez575
      cases ez575
      rename_i h7 ez576
      cases ez576
      rename_i h8 ez577
      cases ez577
      rename_i h9 ez578
      cases ez578
      rename_i h10 ez579
      cases ez579
      rename_i h11 ez580
      cases ez580
      rename_i h12 ez581
      cases ez581
      rename_i h13 ez582
      cases ez582
      rename_i h14 ez583
      cases ez583
      rename_i h15 ez584
      cases ez584
      rename_i h16 ez585
      cases ez585
      rename_i h17 ez586
      cases ez586
      rename_i h18 ez587
      cases ez587
      rename_i h19 ez588
      cases ez588
      rename_i h20 ez589
      cases ez589
      rename_i h21 ez590
      cases ez590
      rename_i h22 ez591
      cases ez591
      rename_i h23 ez592
      cases ez592
      rename_i h24 ez593
      cases ez593
      rename_i h25 ez594
      cases ez594
      rename_i h26 ez595
      cases ez595
      rename_i h27 h28
      refine AL_mk wd p1 p3 n c cm A Am ?_
      exact ⟨SD, h0, h1, h2, h3, h4, h5, h6, h7, h8, h9, h10, h11, h12, h13, h14, h15, h16, h17, h18, h19, (fun g1 => rfl), h21, h22, h23, h24, h25, h26, h27, h28⟩
    | 21, _ =>
      intro o ho l xs w1 hl hx hG hi hdep K hK
      obtain rfl := Option.some.inj (ho.symm.trans rfl)
      clear ho
      obtain ⟨l0, l1, l2, l3, l4, l5, l6, l7, l8, l9, l10, l11, l12, l13, l14, l15, l16, l17, l18, l19, l20, l21, l22, l23, l24, l25, l26, l27, l28, rfl⟩ := AL_b l hl
      obtain ⟨x0, x1, x2, x3, x4, x5, x6, x7, x8, x9, x10, x11, x12, x13, x14, x15, x16, x17, x18, x19, x20, x21, x22, x23, x24, x25, x26, x27, x28, rfl⟩ := AL_v xs hx
      obtain rfl : l21 = false := hi
      obtain rfl : l20 = true := hdep 20 (by kernel_rfl)
      obtain rfl : l17 = true := hdep 17 (by kernel_rfl)
      clear hdep hl hx
      dsimp only [setAll, List.set_cons_zero, List.set_cons_succ] at hK ⊢
      have hf := AL_get wd p1 p3 n c cm A Am hG
      have hF0 := (hf.2.2.2.2.2.2.2.2.2.2.2.2.2.2.2.2.2.2.2.2.2.1 rfl)
      have hF1 := (hf.2.2.2.2.2.2.2.2.2.2.2.2.2.2.2.2.2.2.1 rfl)
      clear hf
      subst hF0
      subst hF1
      go_simp
      refine hK.out _ _ ?_
      clear hK K
      have hC := AL_get wd p1 p3 n c cm A Am hG
      cases hC
      rename_i SD ez596
      cases ez596
      rename_i h0 ez597
      cases ez597
      rename_i h1 ez598
      cases ez598
      rename_i h2 ez599
      cases ez599
      rename_i h3 ez600
      cases ez600
      rename_i h4 ez601
      cases ez601
      rename_i h5 ez602
      cases ez602
      rename_i h6 ez603
      cases ez603
      rename_i h7 ez604
      cases ez604
      rename_i h8 ez605
      cases ez605
      rename_i h9 ez606
      cases ez606
      rename_i h10 ez607
      cases ez607
      rename_i h11 ez608
      cases ez608
      rename_i h12 ez609
      cases ez609
      rename_i h13 ez610
      cases ez610
      rename_i h14 ez611
      cases ez611
      rename_i h15 ez612
      cases ez612
      rename_i h16 ez613
      cases ez613
      rename_i h17 ez614
      cases ez614
      rename_i h18 ez615
      cases ez615
      rename_i h19 ez616
      cases ez616
      rename_i h20 ez617
      cases ez617
      rename_i h21 ez618
      cases ez618
      rename_i h22 ez619
      cases ez619
      rename_i h23 ez620
      cases ez620
      rename_i h24 ez621
      cases ez621
      rename_i h25 ez622
      cases ez622
      rename_i h26 ez623
      cases ez623
      rename_i h27 h28
      refine AL_mk wd p1 p3 n c cm A Am ?_
      exact ⟨SD, h0, h1, h2, h3, h4, h5, h6, h7, h8, h9, h10, h11, h12, h13, h14, h15, h16, h17, h18, h19, h20, (fun g1 => rfl), h22, h23, h24, h25, h26, h27, h28⟩
    | 22, _ =>
      intro o ho l xs w1 hl hx hG hi hdep K hK
      obtain rfl := Option.some.inj (ho.symm.trans rfl)
      clear ho
      obtain ⟨l0, l1, l2, l3, l4, l5, l6, l7, l8, l9, l10, l11, l12, l13, l14, l15, l16, l17, l18, l19, l20, l21, l22, l23, l24, l25, l26, l27, l28, rfl⟩ := AL_b l hl
      obtain ⟨x0, x1, x2, x3, x4, x5, x6, x7, x8, x9, x10, x11, x12, x13, x14, x15, x16, x17, x18, x19, x20, x21, x22, x23, x24, x25, x26, x27, x28, rfl⟩ := AL_v xs hx
      obtain rfl : l22 = false := hi
      obtain rfl : l21 = true := hdep 21 (by kernel_rfl)
      clear hdep hl hx
      dsimp only [setAll, List.set_cons_zero, List.set_cons_succ] at hK ⊢
      have hf := AL_get wd p1 p3 n c cm A Am hG
      have hF0 := (hf.2.2.2.2.2.2.2.2.2.2.2.2.2.2.2.2.2.2.2.2.2.2.1 rfl)
      clear hf
      subst hF0
      go_simp
      refine hK.out _ _ ?_
      clear hK K
      have hC := AL_get wd p1 p3 n c cm A Am hG
      cases hC
      rename_i SD ez624
      cases ez624
      rename_i h0 ez625
      cases ez625
      rename_i h1 ez626
      cases ez626
      rename_i h2 ez627
      cases ez627
      rename_i h3 ez628
      cases ez628
      rename_i h4 ez629
      cases ez629
      rename_i h5 ez630
      cases ez630
      rename_i h6 ez631
      cases ez631
      rename_i h7 ez632
      cases ez632
      rename_i h8 ez633
      cases ez633
      rename_i h9 ez634
      cases ez634
      rename_i h10 ez635
      cases ez635
      rename_i h11 ez636
      cases ez636
      rename_i h12 ez637
      cases ez637
      rename_i h13 ez638
      cases ez638
      rename_i h14 ez639
      cases ez639
      rename_i h15 ez640
      cases ez640
      rename_i h16 ez641
      cases ez641
      rename_i h17 ez642
      cases ez642
      rename_i h18 ez643
      cases ez643
      rename_i h19 ez644
      cases ez644
      rename_i h20 ez645
      cases ez645
      rename_i h21 ez646
      cases ez646
      rename_i h22 ez647
      cases ez647
      rename_i h23 ez648
      cases ez648
      rename_i h24 ez649
      cases ez649
      rename_i h25 ez650
      cases ez650
      rename_i h26 ez651
      cases ez651
      rename_i h27 h28
      refine AL_mk wd p1 p3 n c cm A Am ?_
      exact ⟨SD, h0, h1, h2, h3, h4, h5, h6, h7, h8, h9, h10, h11, h12, h13, h14, h15, h16, h17, h18, h19, h20, h21, (fun g1 => rfl), h23, h24, h25, h26, h27, h28⟩
    | 23, _ =>
      intro o ho l xs w1 hl hx hG hi hdep K hK
      obtain rfl := Option.some.inj (ho.symm.trans rfl)
      clear ho
      obtain ⟨l0, l1, l2, l3, l4, l5, l6, l7, l8, l9, l10, l11, l12, l13, l14, l15, l16, l17, l18, l19, l20, l21, l22, l23, l24, l25, l26, l27, l28, rfl⟩ := AL_b l hl
      obtain ⟨x0, x1, x2, x3, x4, x5, x6, x7, x8, x9, x10, x11, x12, x13, x14, x15, x16, x17, x18, x19, x20, x21, x22, x23, x24, x25, x26, x27, x28, rfl⟩ := AL_v xs hx
      obtain rfl : l23 = false := hi
      obtain rfl : l21 = true := hdep 21 (by kernel_rfl)
      clear hdep hl hx
      dsimp only [setAll, List.set_cons_zero, List.set_cons_succ] at hK ⊢
      have hf := AL_get wd p1 p3 n c cm A Am hG
      have hF0 := (hf.2.2.2.2.2.2.2.2.2.2.2.2.2.2.2.2.2.2.2.2.2.2.1 rfl)
      clear hf
      subst hF0
      go_simp
      refine (HBACK.out w1).mono ?_
      rintro e wz ⟨rfl, hbz⟩
      try go_simp
      refine hK.out _ _ ?_
      clear hK K
      have hC := AL_get wd p1 p3 n c cm A Am hG
      cases hC
      rename_i SD ez652
      cases ez652
      rename_i h0 ez653
      cases ez653
      rename_i h1 ez654
      cases ez654
      rename_i h2 ez655
      cases ez655
      rename_i h3 ez656
      cases ez656
      rename_i h4 ez657
      cases ez657
      rename_i h5 ez658
      cases ez658
      rename_i h6 ez659
      cases ez659
      rename_i h7 ez660
      cases ez660
      rename_i h8 ez661
      cases ez661
      rename_i h9 ez662
      cases ez662
      rename_i h10 ez663
      cases ez663
      rename_i h11 ez664
      cases ez664
      rename_i h12 ez665
      cases ez665
      rename_i h13 ez666
      cases ez666
      rename_i h14 ez667
      cases ez667
      rename_i h15 ez668
      cases ez668
      rename_i h16 ez669
      cases ez669
      rename_i h17 ez670
      cases ez670
      rename_i h18 ez671
      cases ez671
      rename_i h19 ez672
      cases ez672
      rename_i h20 ez673
      cases ez673
      rename_i h21 ez674
      cases ez674
      rename_i h22 ez675
      cases ez675
      rename_i h23 ez676
      cases ez676
      rename_i h24 ez677
      cases ez677
      rename_i h25 ez678
      cases ez678
      rename_i h26 ez679
      cases ez679
      rename_i h27 h28
      have hb := hbz
      refine AL_mk wd p1 p3 n c cm A Am ?_
      exact ⟨below_then SD hb, (fun g1 => by obtain e := h0 g1; exact e), (fun g1 => by obtain e := h1 g1; exact e), (fun g1 => by obtain e := h2 g1; exact e), (fun g1 => by obtain e := h3 g1; exact e), (fun g1 g2 => by obtain ⟨g, e, r⟩ := h4 g1 g2; exact ⟨g, e, r.below hb⟩), (fun g1 g2 => by obtain ⟨A', n', c', e, r⟩ := h5 g1 g2; exact ⟨A', n', c', e, r.below hb⟩), (fun g1 => by obtain e := h6 g1; exact e), (fun g1 => by obtain e := h7 g1; exact e), (fun g1 => by obtain e := h8 g1; exact e), (fun g1 => by obtain e := h9 g1; exact e), (fun g1 => by obtain e := h10 g1; exact e), (fun g1 => by obtain e := h11 g1; exact e), (fun g1 => by obtain e := h12 g1; exact e), (fun g1 => by obtain e := h13 g1; exact e), (fun g1 => by obtain e := h14 g1; exact e), (fun g1 => by obtain e := h15 g1; exact e), (fun g1 => by obtain e := h16 g1; exact e), (fun g1 => by obtain e := h17 g1; exact e), (fun g1 => by obtain e := h18 g1; exact e), (fun g1 => by obtain e := h19 g1; exact e), (fun g1 => by obtain e := h20 g1; exact e), (fun g1 => by obtain e := h21 g1; exact e), (fun g1 => by obtain e := h22 g1; exact e), (fun g1 => rfl), (fun g1 g2 => by obtain ⟨g, e, r⟩ := h24 g1 g2; exact ⟨g, e, r.below hb⟩), (fun g1 g2 => by obtain ⟨g, e, r⟩ := h25 g1 g2; exact ⟨g, e, r.below hb⟩), (fun g1 => by obtain e := h26 g1; exact e), (fun g1 => by obtain e := h27 g1; exact e), (fun g1 => by obtain e := h28 g1; exact e)⟩
    | 24, _ =>
      intro o ho l xs w1 hl hx hG hi hdep K hK
      obtain rfl := Option.some.inj (ho.symm.trans rfl)
      clear ho
      obtain ⟨l0, l1, l2, l3, l4, l5, l6, l7, l8, l9, l10, l11, l12, l13, l14, l15, l16, l17, l18, l19, l20, l21, l22, l23, l24, l25, l26, l27, l28, rfl⟩ := AL_b l hl
      obtain ⟨x0, x1, x2, x3, x4, x5, x6, x7, x8, x9, x10, x11, x12, x13, x14, x15, x16, x17, x18, x19, x20, x21, x22, x23, x24, x25, x26, x27, x28, rfl⟩ := AL_v xs hx
      obtain rfl : l24 = false := hi
      obtain rfl : l23 = true := hdep 23 (by kernel_rfl)
      obtain rfl : l21 = true := hdep 21 (by kernel_rfl)
      clear hdep hl hx
      dsimp only [setAll, List.set_cons_zero, List.set_cons_succ] at hK ⊢
      have hf := AL_get wd p1 p3 n c cm A Am hG
      have hF0 := (hf.2.2.2.2.2.2.2.2.2.2.2.2.2.2.2.2.2.2.2.2.2.2.1 rfl)
      clear hf
      subst hF0
      go_simp
      refine (HPICK.out w1).mono ?_
      rintro e wz ⟨g, rfl, hr24, hbz⟩
      try go_simp
      refine hK.out _ _ ?_
      clear hK K
      have hC := AL_get wd p1 p3 n c cm A Am hG
      cases hC
      rename_i SD ez680
      cases ez680
      rename_i h0 ez681
      cases ez681
      rename_i h1 ez682
      cases ez682
      rename_i h2 ez683
      cases ez683
      rename_i h3 ez684
      cases ez684
      rename_i h4 ez685
      cases ez685
      rename_i h5 ez686
      cases ez686
      rename_i h6 ez687
      cases ez687
      rename_i h7 ez688
      cases ez688
      rename_i h8 ez689
      cases ez689
      rename_i h9 ez690
      cases ez690
      rename_i h10 ez691
      cases ez691
      rename_i h11 ez692
      cases ez692
      rename_i h12 ez693
      cases ez693
      rename_i h13 ez694
      cases ez694
      rename_i h14 ez695
      cases ez695
      rename_i h15 ez696
      cases ez696
      rename_i h16 ez697
      cases ez697
      rename_i h17 ez698
      cases ez698
      rename_i h18 ez699
      cases ez699
      rename_i h19 ez700
      cases ez700
      rename_i h20 ez701
      cases ez701
      rename_i h21 ez702
      cases ez702
      rename_i h22 ez703
      cases ez703
      rename_i h23 ez704
      cases ez704
      rename_i h24 ez705
      cases ez705
      rename_i h25 ez706
      cases ez706
      rename_i h26 ez707
      cases ez707
      rename_i h27 h28
      have hb := hbz
      refine AL_mk wd p1 p3 n c cm A Am ?_
      exact ⟨below_then SD hb, (fun g1 => by obtain e := h0 g1; exact e), (fun g1 => by obtain e := h1 g1; exact e), (fun g1 => by obtain e := h2 g1; exact e), (fun g1 => by obtain e := h3 g1; exact e), (fun g1 g2 => by obtain ⟨g, e, r⟩ := h4 g1 g2; exact ⟨g, e, r.below hb⟩), (fun g1 g2 => by obtain ⟨A', n', c', e, r⟩ := h5 g1 g2; exact ⟨A', n', c', e, r.below hb⟩), (fun g1 => by obtain e := h6 g1; exact e), (fun g1 => by obtain e := h7 g1; exact e), (fun g1 => by obtain e := h8 g1; exact e), (fun g1 => by obtain e := h9 g1; exact e), (fun g1 => by obtain e := h10 g1; exact e), (fun g1 => by obtain e := h11 g1; exact e), (fun g1 => by obtain e := h12 g1; exact e), (fun g1 => by obtain e := h13 g1; exact e), (fun g1 => by obtain e := h14 g1; exact e), (fun g1 => by obtain e := h15 g1; exact e), (fun g1 => by obtain e := h16 g1; exact e), (fun g1 => by obtain e := h17 g1; exact e), (fun g1 => by obtain e := h18 g1; exact e), (fun g1 => by obtain e := h19 g1; exact e), (fun g1 => by obtain e := h20 g1; exact e), (fun g1 => by obtain e := h21 g1; exact e), (fun g1 => by obtain e := h22 g1; exact e), (fun g1 => by obtain e := h23 g1; exact e), (fun g1 g2 => ⟨_, rfl, hr24⟩), (fun g1 g2 => by obtain ⟨g, e, r⟩ := h25 g1 g2; exact ⟨g, e, r.below hb⟩), (fun g1 => by obtain e := h26 g1; exact e), (fun g1 => by obtain e := h27 g1; exact e), (fun g1 => by obtain e := h28 g1; exact e)⟩
    | 25, _ =>
      intro o ho l xs w1 hl hx hG hi hdep K hK
      obtain rfl := Option.some.inj (ho.symm.trans rfl)
      clear ho
      obtain ⟨l0, l1, l2, l3, l4, l5, l6, l7, l8, l9, l10, l11, l12, l13, l14, l15, l16, l17, l18, l19, l20, l21, l22, l23, l24, l25, l26, l27, l28, rfl⟩ := AL_b l hl
      obtain ⟨x0, x1, x2, x3, x4, x5, x6, x7, x8, x9, x10, x11, x12, x13, x14, x15, x16, x17, x18, x19, x20, x21, x22, x23, x24, x25, x26, x27, x28, rfl⟩ := AL_v xs hx
      obtain rfl : l25 = false := hi
      obtain rfl : l23 = true := hdep 23 (by kernel_rfl)
      obtain rfl : l24 = true := hdep 24 (by kernel_rfl)
      obtain rfl : l21 = true := hdep 21 (by kernel_rfl)
      clear hdep hl hx
      dsimp only [setAll, List.set_cons_zero, List.set_cons_succ] at hK ⊢
      have hf := AL_get wd p1 p3 n c cm A Am hG
      have hF0 := (hf.2.2.2.2.2.2.2.2.2.2.2.2.2.2.2.2.2.2.2.2.2.2.1 rfl)
      have hF1 := (hf.2.2.2.2.2.2.2.2.2.2.2.2.2.2.2.2.2.2.2.2.2.2.2.2.1 rfl)
      have hF2 := (hf.2.2.2.2.2.2.2.2.2.2.2.2.2.2.2.2.2.2.2.2.2.2.2.2.2.1 rfl rfl)
      clear hf
      subst hF0
      subst hF1
      cases hF2
      rename_i g ez708
      cases ez708
      rename_i ez709 r24
      subst ez709
      go_simp
      refine hK.out _ _ ?_
      clear hK K
      have hC := AL_get wd p1 p3 n c cm A Am hG
      cases hC
      rename_i SD ez710
      cases ez710
      rename_i h0 ez711
      cases ez711
      rename_i h1 ez712
      cases ez712
      rename_i h2 ez713
      cases ez713
      rename_i h3 ez714
      cases ez714
      rename_i h4 ez715
      cases ez715
      rename_i h5 ez716
      cases ez716
      rename_i h6 ez717
      cases ez717
      rename_i h7 ez718
      cases ez718
      rename_i h8 ez719
      cases ez719
      rename_i h9 ez720
      cases ez720
      rename_i h10 ez721
      cases ez721
      rename_i h11 ez722
      cases ez722
      rename_i h12 ez723
      cases ez723
      rename_i h13 ez724
      cases ez724
      rename_i h14 ez725
      cases ez725
      rename_i h15 ez726
      cases ez726
      rename_i h16 ez727
      cases ez727
      rename_i h17 ez728
      cases ez728
      rename_i h18 ez729
      cases ez729
      rename_i h19 ez730
      cases ez730
      rename_i h20 ez731
      cases ez731
      rename_i h21 ez732
      cases ez732
      rename_i h22 ez733
      cases ez733
      rename_i h23 ez734
      cases ez734
      rename_i h24 ez735
      cases ez735
      rename_i h25 ez736
      cases ez736
      rename_i h26 ez737
      cases ez737
      rename_i h27 h28
      have hb := fun ob => (Below.refl w1.heap.size w1).alloc (Nat.le_refl _) ob
      refine AL_mk wd p1 p3 n c cm A Am ?_
      exact ⟨below_then SD (hb _), (fun g1 => by obtain e := h0 g1; exact e), (fun g1 => by obtain e := h1 g1; exact e), (fun g1 => by obtain e := h2 g1; exact e), (fun g1 => by obtain e := h3 g1; exact e), (fun g1 g2 => by obtain ⟨g, e, r⟩ := h4 g1 g2; exact ⟨g, e, r.below (hb _)⟩), (fun g1 g2 => by obtain ⟨A', n', c', e, r⟩ := h5 g1 g2; exact ⟨A', n', c', e, r.below (hb _)⟩), (fun g1 => by obtain e := h6 g1; exact e), (fun g1 => by obtain e := h7 g1; exact e), (fun g1 => by obtain e := h8 g1; exact e), (fun g1 => by obtain e := h9 g1; exact e), (fun g1 => by obtain e := h10 g1; exact e), (fun g1 => by obtain e := h11 g1; exact e), (fun g1 => by obtain e := h12 g1; exact e), (fun g1 => by obtain e := h13 g1; exact e), (fun g1 => by obtain e := h14 g1; exact e), (fun g1 => by obtain e := h15 g1; exact e), (fun g1 => by obtain e := h16 g1; exact e), (fun g1 => by obtain e := h17 g1; exact e), (fun g1 => by obtain e := h18 g1; exact e), (fun g1 => by obtain e := h19 g1; exact e), (fun g1 => by obtain e := h20 g1; exact e), (fun g1 => by obtain e := h21 g1; exact e), (fun g1 => by obtain e := h22 g1; exact e), (fun g1 => by obtain e := h23 g1; exact e), (fun _ g2 => by cases g2), (fun g1 g2 => ⟨_, rfl, log_back_pick (Blk.new _ _ _) (r24.below (hb _))⟩), (fun g1 => by obtain e := h26 g1; exact e), (fun g1 => by obtain e := h27 g1; exact e), (fun g1 => by obtain e := h28 g1; exact e)⟩
    | 26, _ =>
      intro o ho l xs w1 hl hx hG hi hdep K hK
      obtain rfl := Option.some.inj (ho.symm.trans rfl)
      clear ho
      obtain ⟨l0, l1, l2, l3, l4, l5, l6, l7, l8, l9, l10, l11, l12, l13, l14, l15, l16, l17, l18, l19, l20, l21, l22, l23, l24, l25, l26, l27, l28, rfl⟩ := AL_b l hl
      obtain ⟨x0, x1, x2, x3, x4, x5, x6, x7, x8, x9, x10, x11, x12, x13, x14, x15, x16, x17, x18, x19, x20, x21, x22, x23, x24, x25, x26, x27, x28, rfl⟩ := AL_v xs hx
      obtain rfl : l26 = false := hi
      obtain rfl : l22 = true := hdep 22 (by kernel_rfl)
      obtain rfl : l25 = true := hdep 25 (by kernel_rfl)
      obtain rfl : l24 = true := hdep 24 (by kernel_rfl)
      obtain rfl : l21 = true := hdep 21 (by kernel_rfl)
      clear hdep hl hx
      dsimp only [setAll, List.set_cons_zero, List.set_cons_succ] at hK ⊢
      have hf := AL_get wd p1 p3 n c cm A Am hG
      have hM := HM.out w1 hf.1
      have hF1 := (hf.2.2.2.2.2.2.2.2.2.2.2.2.2.2.2.2.2.2.2.2.2.2.1 rfl)
      have hF2 := (hf.2.2.2.2.2.2.2.2.2.2.2.2.2.2.2.2.2.2.2.2.2.2.2.1 rfl)
      have hF3 := (hf.2.2.2.2.2.2.2.2.2.2.2.2.2.2.2.2.2.2.2.2.2.2.2.2.2.2.1 rfl rfl)
      clear hf
      subst hF1
      subst hF2
      cases hF3
      rename_i g ez738
      cases ez738
      rename_i ez739 r25
      subst ez739
      go_simp
      refine (HESAME.out g w1 hM r25).mono ?_
      rintro e wz ⟨rfl, hbz⟩
      try go_simp
      refine hK.out _ _ ?_
      clear hK K
      have hC := AL_get wd p1 p3 n c cm A Am hG
      cases hC
      rename_i SD ez740
      cases ez740
      rename_i h0 ez741
      cases ez741
      rename_i h1 ez742
      cases ez742
      rename_i h2 ez743
      cases ez743
      rename_i h3 ez744
      cases ez744
      rename_i h4 ez745
      cases ez745
      rename_i h5 ez746
      cases ez746
      rename_i h6 ez747
      cases ez747
      rename_i h7 ez748
      cases ez748
      rename_i h8 ez749
      cases ez749
      rename_i h9 ez750
      cases ez750
      rename_i h10 ez751
      cases ez751
      rename_i h11 ez752
      cases ez752
      rename_i h12 ez753
      cases ez753
      rename_i h13 ez754
      cases ez754
      rename_i h14 ez755
      cases ez755
      rename_i h15 ez756
      cases ez756
      rename_i h16 ez757
      cases ez757
      rename_i h17 ez758
      cases ez758
      rename_i h18 ez759
      cases ez759
      rename_i h19 ez760
      cases ez760
      rename_i h20 ez761
      cases ez761
      rename_i h21 ez762
      cases ez762
      rename_i h22 ez763
      cases ez763
      rename_i h23 ez764
      cases ez764
      rename_i h24 ez765
      cases ez765
      rename_i h25 ez766
      cases ez766
      rename_i h26 ez767
      cases ez767
      rename_i h27 h28
      have hb := hbz
      refine AL_mk wd p1 p3 n c cm A Am ?_
      exact ⟨below_then SD hb, (fun g1 => by obtain e := h0 g1; exact e), (fun g1 => by obtain e := h1 g1; exact e), (fun g1 => by obtain e := h2 g1; exact e), (fun g1 => by obtain e := h3 g1; exact e), (fun g1 g2 => by obtain ⟨g, e, r⟩ := h4 g1 g2; exact ⟨g, e, r.below hb⟩), (fun g1 g2 => by obtain ⟨A', n', c', e, r⟩ := h5 g1 g2; exact ⟨A', n', c', e, r.below hb⟩), (fun g1 => by obtain e := h6 g1; exact e), (fun g1 => by obtain e := h7 g1; exact e), (fun g1 => by obtain e := h8 g1; exact e), (fun g1 => by obtain e := h9 g1; exact e), (fun g1 => by obtain e := h10 g1; exact e), (fun g1 => by obtain e := h11 g1; exact e), (fun g1 => by obtain e := h12 g1; exact e), (fun g1 => by obtain e := h13 g1; exact e), (fun g1 => by obtain e := h14 g1; exact e), (fun g1 => by obtain e := h15 g1; exact e), (fun g1 => by obtain e := h16 g1; exact e), (fun g1 => by obtain e := h17 g1; exact e), (fun g1 => by obtain e := h18 g1; exact e), (fun g1 => by obtain e := h19 g1; exact e), (fun g1 => by obtain e := h20 g1; exact e), (fun g1 => by obtain e := h21 g1; exact e), (fun g1 => by obtain e := h22 g1; exact e), (fun g1 => by obtain e := h23 g1; exact e), (fun _ g2 => by cases g2), (fun _ g2 => by cases g2), (fun g1 => rfl), (fun g1 => by obtain e := h27 g1; exact e), (fun g1 => by obtain e := h28 g1; exact e)⟩
    | 27, _ =>
      intro o ho l xs w1 hl hx hG hi hdep K hK
      obtain rfl := Option.some.inj (ho.symm.trans rfl)
      clear ho
      obtain ⟨l0, l1, l2, l3, l4, l5, l6, l7, l8, l9, l10, l11, l12, l13, l14, l15, l16, l17, l18, l19, l20, l21, l22, l23, l24, l25, l26, l27, l28, rfl⟩ := AL_b l hl
      obtain ⟨x0, x1, x2, x3, x4, x5, x6, x7, x8, x9, x10, x11, x12, x13, x14, x15, x16, x17, x18, x19, x20, x21, x22, x23, x24, x25, x26, x27, x28, rfl⟩ := AL_v xs hx
      obtain rfl : l27 = false := hi
      obtain rfl : l21 = true := hdep 21 (by kernel_rfl)
      obtain rfl : l26 = true := hdep 26 (by kernel_rfl)
      clear hdep hl hx
      dsimp only [setAll, List.set_cons_zero, List.set_cons_succ] at hK ⊢
      have hf := AL_get wd p1 p3 n c cm A Am hG
      have hF0 := (hf.2.2.2.2.2.2.2.2.2.2.2.2.2.2.2.2.2.2.2.2.2.2.1 rfl)
      have hF1 := (hf.2.2.2.2.2.2.2.2.2.2.2.2.2.2.2.2.2.2.2.2.2.2.2.2.2.2.2.1 rfl)
      clear hf
      subst hF0
      subst hF1
      go_simp
      refine hK.out _ _ ?_
      clear hK K
      have hC := AL_get wd p1 p3 n c cm A Am hG
      cases hC
      rename_i SD ez768
      cases ez768
      rename_i h0 ez769
      cases ez769
      rename_i h1 ez770
      cases ez770
      rename_i h2 ez771
      cases ez771
      rename_i h3 ez772
      cases ez772
      rename_i h4 ez773
      cases ez773
      rename_i h5 ez774
      cases ez774
      rename_i h6 ez775
      cases ez775
      rename_i h7 ez776
      cases ez776
      rename_i h8 ez777
      cases ez777
      rename_i h9 ez778
      cases ez778
      rename_i h10 ez779
      cases ez779
      rename_i h11 ez780
      cases ez780
      rename_i h12 ez781
      cases ez781
      rename_i h13 ez782
      cases ez782
      rename_i h14 ez783
      cases ez783
      rename_i h15 ez784
      cases ez784
      rename_i h16 ez785
      cases ez785
      rename_i h17 ez786
      cases ez786
      rename_i h18 ez787
      cases ez787
      rename_i h19 ez788
      cases ez788
      rename_i h20 ez789
      cases ez789
      rename_i h21 ez790
      cases ez790
      rename_i h22 ez791
      cases ez791
      rename_i h23 ez792
      cases ez792
      rename_i h24 ez793
      cases ez793
      rename_i h25 ez794
      cases ez794
      rename_i h26 ez795
      cases ez795
      rename_i h27 h28
      refine AL_mk wd p1 p3 n c cm A Am ?_
      exact ⟨SD, h0, h1, h2, h3, h4, h5, h6, h7, h8, h9, h10, h11, h12, h13, h14, h15, h16, h17, h18, h19, h20, h21, h22, h23, h24, (fun _ g2 => by cases g2), h26, (fun g1 => rfl), h28⟩
    | 28, _ =>
      intro o ho l xs w1 hl hx hG hi hdep K hK
      obtain rfl := Option.some.inj (ho.symm.trans rfl)
      clear ho
      obtain ⟨l0, l1, l2, l3, l4, l5, l6, l7, l8, l9, l10, l11, l12, l13, l14, l15, l16, l17, l18, l19, l20, l21, l22, l23, l24, l25, l26, l27, l28, rfl⟩ := AL_b l hl
      obtain ⟨x0, x1, x2, x3, x4, x5, x6, x7, x8, x9, x10, x11, x12, x13, x14, x15, x16, x17, x18, x19, x20, x21, x22, x23, x24, x25, x26, x27, x28, rfl⟩ := AL_v xs hx
      obtain rfl : l28 = false := hi
      obtain rfl : l27 = true := hdep 27 (by kernel_rfl)
      obtain rfl : l26 = true := hdep 26 (by kernel_rfl)
      obtain rfl : l0 = true := hdep 0 (by kernel_rfl)
      obtain rfl : l1 = true := hdep 1 (by kernel_rfl)
      obtain rfl : l2 = true := hdep 2 (by kernel_rfl)
      obtain rfl : l3 = true := hdep 3 (by kernel_rfl)
      obtain rfl : l4 = true := hdep 4 (by kernel_rfl)
      obtain rfl : l5 = true := hdep 5 (by kernel_rfl)
      obtain rfl : l6 = true := hdep 6 (by kernel_rfl)
      obtain rfl : l7 = true := hdep 7 (by kernel_rfl)
      obtain rfl : l8 = true := hdep 8 (by kernel_rfl)
      obtain rfl : l9 = true := hdep 9 (by kernel_rfl)
      obtain rfl : l10 = true := hdep 10 (by kernel_rfl)
      obtain rfl : l11 = true := hdep 11 (by kernel_rfl)
      obtain rfl : l12 = true := hdep 12 (by kernel_rfl)
      obtain rfl : l13 = true := hdep 13 (by kernel_rfl)
      obtain rfl : l14 = true := hdep 14 (by kernel_rfl)
      obtain rfl : l15 = true := hdep 15 (by kernel_rfl)
      obtain rfl : l16 = true := hdep 16 (by kernel_rfl)
      obtain rfl : l17 = true := hdep 17 (by kernel_rfl)
      obtain rfl : l18 = true := hdep 18 (by kernel_rfl)
      obtain rfl : l19 = true := hdep 19 (by kernel_rfl)
      obtain rfl : l20 = true := hdep 20 (by kernel_rfl)
      obtain rfl : l21 = true := hdep 21 (by kernel_rfl)
      obtain rfl : l22 = true := hdep 22 (by kernel_rfl)
      obtain rfl : l23 = true := hdep 23 (by kernel_rfl)
      obtain rfl : l24 = true := hdep 24 (by kernel_rfl)
      obtain rfl : l25 = true := hdep 25 (by kernel_rfl)
      clear hdep hl hx
      dsimp only [setAll, List.set_cons_zero, List.set_cons_succ] at hK ⊢
      have hf := AL_get wd p1 p3 n c cm A Am hG
      have hF0 := (hf.2.2.2.2.2.2.2.2.2.2.2.2.2.2.2.2.2.2.2.2.2.2.2.2.2.2.2.2.1 rfl)
      clear hf
      subst hF0
      go_simp
      refine hK.out _ _ ?_
      clear hK K
      have hC := AL_get wd p1 p3 n c cm A Am hG
      cases hC
      rename_i SD ez796
      cases ez796
      rename_i h0 ez797
      cases ez797
      rename_i h1 ez798
      cases ez798
      rename_i h2 ez799
      cases ez799
      rename_i h3 ez800
      cases ez800
      rename_i h4 ez801
      cases ez801
      rename_i h5 ez802
      cases ez802
      rename_i h6 ez803
      cases ez803
      rename_i h7 ez804
      cases ez804
      rename_i h8 ez805
      cases ez805
      rename_i h9 ez806
      cases ez806
      rename_i h10 ez807
      cases ez807
      rename_i h11 ez808
      cases ez808
      rename_i h12 ez809
      cases ez809
      rename_i h13 ez810
      cases ez810
      rename_i h14 ez811
      cases ez811
      rename_i h15 ez812
      cases ez812
      rename_i h16 ez813
      cases ez813
      rename_i h17 ez814
      cases ez814
      rename_i h18 ez815
      cases ez815
      rename_i h19 ez816
      cases ez816
      rename_i h20 ez817
      cases ez817
      rename_i h21 ez818
      cases ez818
      rename_i h22 ez819
      cases ez819
      rename_i h23 ez820
      cases ez820
      rename_i h24 ez821
      cases ez821
      rename_i h25 ez822
      cases ez822
      rename_i h26 ez823
      cases ez823
      rename_i h27 h28
      refine AL_mk wd p1 p3 n c cm A Am ?_
      exact ⟨SD, h0, h1, h2, h3, (fun _ g2 => by cases g2), (fun _ g2 => by cases g2), h6, h7, h8, h9, h10, h11, h12, h13, h14, h15, h16, h17, h18, h19, h20, h21, h22, h23, (fun _ g2 => by cases g2), (fun _ g2 => by cases g2), h26, h27, (fun g1 => rfl)⟩
    | k + 29, h => exact absurd h (by omega)
  · obtain ⟨x0, x1, x2, x3, x4, x5, x6, x7, x8, x9, x10, x11, x12, x13, x14, x15, x16, x17, x18, x19, x20, x21, x22, x23, x24, x25, x26, x27, x28, rfl⟩ := AL_v xs hx
    have hG : AL wd p1 p3 n c cm A Am [true, true, true, true, true, true, true, true, true, true, true, true, true, true, true, true, true, true, true, true, true, true, true, true, true, true, true, true, true] [x0, x1, x2, x3, x4, x5, x6, x7, x8, x9, x10, x11, x12, x13, x14, x15, x16, x17, x18, x19, x20, x21, x22, x23, x24, x25, x26, x27, x28] wf := hG
    have hf := AL_get wd p1 p3 n c cm A Am hG
    have hBEL := hf.1
    have hF1 := (hf.2.2.2.2.2.2.2.2.2.2.2.2.2.2.2.2.2.2.2.2.2.2.2.2.2.2.2.2.2 rfl)
    clear hf
    subst hF1
    clear hG hx
    dsimp only [setAll, List.set_cons_zero, List.set_cons_succ]
    go_wp2_with fail
    go_ret
    exact ⟨rfl, HB0.out _ hBEL⟩
end Go.Proofs.Ytfjdlbilnoojkaa
