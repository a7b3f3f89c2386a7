/- Contracts of layer 20 at the examples of the law LoomlogNames; a pick whose lifts lie in a block of their own. -/
import Derived.Test.YtfjdlbilnoojkaaMg7z
import Derived.Test.YtfjdlbilnoojkaaAlive20z
import Derived.Test.YtfjdlbilnoojkaaShortz
import Derived.Test.YtfjdlbilnoojkaaSpoil20z
import Derived.Test.YtfjdlbilnoojkaaMg5z
import Derived.Test.YtfjdlbilnoojkaaRZeroz
namespace Go.Proofs.Ytfjdlbilnoojkaa
open Go.RowKit

theorem LogR.take20 {w : World} {A : Option Addr} {n k : Nat} {l : List Ev} (h : LogR w A n l) (hk : k ≤ n) : LogR w A k (l.take k) := by
  refine ⟨by rw [List.length_take, h.len]; omega, fun hp => ?_⟩
  obtain ⟨b, o, hA, hlt, hc⟩ := h.2 (by omega)
  refine ⟨b, o, hA, hlt, fun i q r hi => hc i q r ?_⟩
  rw [List.getElem?_take] at hi
  split at hi
  · exact hi
  · cases hi
/-- A log of one event, in a block. -/
theorem log_one {w : World} {g n c : Nat} {t : TypeId} {q : Int} {A : Option Addr} {r : List Bool} (h : Blk w g t #[.int .u8 q, .slice A n c]) (hr : Rd w A n (r.map Value.bool)) : LogR w (some ⟨g, 0, none⟩) 1 [(q, r)] :=
  logR_of_blk h rfl fun i q' r' hi => by
    match i, hi with
    | 0, hi =>
      obtain ⟨rfl, rfl⟩ : q = q' ∧ r = r' := by simpa using hi
      obtain rfl : r.length = n := by simpa using hr.len
      exact ⟨rfl, A, c, rfl, hr⟩
theorem log_pick_back {w : World} {g g1 : Nat} {t : TypeId} (h : Blk w g t #[.int .u8 1, .slice (some ⟨g1, 0, none⟩) 2 2, .int .u8 2, .slice none 0 0]) (hr : Rd w (some ⟨g1, 0, none⟩) 2 ((liftB 1).map Value.bool)) : LogR w (some ⟨g, 0, none⟩) 2 [(1, liftB 1), (2, [])] :=
  logR_of_blk h rfl fun i q r hi => by
    match i, hi with
    | 0, hi => obtain ⟨rfl, rfl⟩ : 1 = q ∧ liftB 1 = r := by simpa using hi
               exact ⟨rfl, _, 2, rfl, hr⟩
    | 1, hi => obtain ⟨rfl, rfl⟩ : 2 = q ∧ [] = r := by simpa using hi
               exact ⟨rfl, none, 0, rfl, Rd.nil_⟩
theorem nchk {N t : Int} {l : List Ev} (h : chkE N l = t) (A : Option Addr) (n c : Nat) (u : World) (hr : LogR u A n l) : Calls Try.prog 19 #[.int .i64 N, .slice A n c] u fun e w' => e = .returned (.int .i64 t) ∧ Below u.heap.size u w' := h ▸ echk_any N l A n c u hr
theorem nrep {N t : Int} {l : List Ev} (h : replayG N l = (Gd.zero, t)) (A : Option Addr) (n c : Nat) (u : World) (hr : LogR u A n l) : Calls Try.prog 13 #[.int .i64 N, .slice A n c] u (ErrG t u) :=
  (replay_any N l A n c u hr).mono fun _ _ q => by rw [h] at q; exact errG_of q
theorem nshort (A : Option Addr) (n c : Nat) (u : World) (hr : Rd u A n ((List.replicate 41 false).map Value.bool)) (hnc : n ≤ c) : Calls Try.prog 15 #[.agg #[.int .i64 41, .int .i64 1, .slice A n c]] u fun e w' => ∃ A' n' c', e = .returned (.tuple #[.slice A' n' c', .int .i64 8]) ∧ Below u.heap.size u w' :=
  (short_any 41 1 _ A n c u hr hnc).mono fun _ _ q => by
    rw [n_f] at q
    obtain ⟨A', n', c', rfl, _, _, _, hb⟩ := q
    exact ⟨A', n', c', rfl, hb⟩
theorem nfind {W H W2 H2 q k t : Int} {bs bt : List Bool} (hx : FindA W H bs W2 H2 bt q k t) (A B : Option Addr) (nA cA nB cB : Nat) (u : World) (h : Rd u A nA (bs.map Value.bool)) (hc : nA ≤ cA) (h2 : Rd u B nB (bt.map Value.bool)) (hc2 : nB ≤ cB) :
    Calls Try.prog 23 #[.agg #[.int .i64 W, .int .i64 H, .slice A nA cA], .agg #[.int .i64 W2, .int .i64 H2, .slice B nB cB]] u fun e w' => e = .returned (.tuple #[.agg #[.int .u8 q, .int .i64 k], .int .i64 t]) ∧ Below u.heap.size u w' :=
  (find20_any W H W2 H2 _ _ A B nA cA nB cB u h hc h2 hc2).mono fun e w' ⟨q, k, t, h1, h2, h3⟩ => by
    obtain ⟨rfl, rfl, rfl⟩ := h2.unique hx
    exact ⟨h1, h3⟩
theorem nspoil {W H q k t : Int} {bs : List Bool} (hx : spoilG W H bs q k [] = (Gd.zero, t)) (hq : 0 ≤ q) (A : Option Addr) (nA cA : Nat) (u : World) (h : Rd u A nA (bs.map Value.bool)) (hc : nA ≤ cA) :
    Calls Try.prog 25 #[.agg #[.int .i64 W, .int .i64 H, .slice A nA cA], .agg #[.int .u8 q, .int .i64 k], .slice none 0 0] u (ErrG t u) :=
  (spoil20_any W H bs A nA cA q k [] none 0 u h hc Rd.nil_ hq (by decide)).mono fun _ _ q => by rw [hx] at q; exact errG_of q
theorem nmend {W H t : Int} {bs : List Bool} {l m : List Ev} {nm : Nat} (hx : mendE W H bs l = (m, t)) (hm : m.length = nm) (A B : Option Addr) (n c nB cB : Nat) (u : World) (h : Rd u A n (bs.map Value.bool)) (hc : n ≤ c) (h2 : LogR u B nB l) (hl : nB ≤ 1048576) :
    Calls Try.prog 17 #[.agg #[.int .i64 W, .int .i64 H, .slice A n c], .slice B nB cB] u fun e w' => ∃ A' c', e = .returned (.tuple #[.slice A' nm c', .int .i64 t]) ∧ Below u.heap.size u w' :=
  (mend_any W H bs A n c l B nB cB u h hc h2 hl).mono fun _ _ q => by
    rw [hx] at q
    obtain ⟨A', n', c', rfl, h4, _, _, hb⟩ := q
    obtain rfl : nm = n' := by have h5 : m.length = n' := h4.len; omega
    exact ⟨A', c', rfl, hb⟩
theorem nzero (a b : Nat) (x y : Int) (hx : (a : Int) = x) (hy : (b : Int) = y) (u : World) (ha : a ≤ 64) (hb : b ≤ 64) : Calls Try.prog 34 #[.int .i64 x, .int .i64 y] u fun e w' => ∃ A n c, e = .returned (.agg #[.int .i64 x, .int .i64 y, .slice A n c]) ∧ Rd w' A n ((List.replicate (b * a) false).map Value.bool) ∧ n ≤ c ∧ Below u.heap.size u w' := by
  subst hx hy
  exact (zero_any a b u ha hb).mono fun _ _ ⟨A, n, c, h1, h2, h3⟩ => ⟨A, n, c, h1, rd_of_own h2, own_le20 h2, h3⟩
set_option maxHeartbeats 1000000 in
theorem lpick1_blk (w : World) : Calls Try.prog 32 #[.int .i64 1] w fun e w' => ∃ g, e = .returned (.agg #[.int .u8 1, .slice (some ⟨g, 0, none⟩) 2 2]) ∧ Blk w' g 4 #[.bool true, .bool false] ∧ Below w.heap.size w w' := by
  have S0 := (St.start w).box #[.int .u8 0, .slice none 0 0] 59
  simp only [List.nil_append] at S0
  have HL := Lib.hid (fun u => llift_any 1 u (.inl rfl))
  go_enter Try.func32, Try.ntmps32
  go_wp2_with fail
  refine (HL.out _).mono ?_
  rintro e w1 ⟨rfl, hB, hb1⟩
  have S1 := S0.keep hb1
  obtain ⟨g, hg⟩ : ∃ g, g = w.heap.size + 1 := ⟨_, rfl⟩
  have hne : g ≠ w.heap.size := by omega
  rw [size_alloc1, ← hg] at hB
  have r0 := (S1.blk 0 rfl).cell 0
  have r1 := (S1.blk 0 rfl).cell 1
  have f0 := (S1.blk 0 rfl).frozen 0
  have f1 := (S1.blk 0 rfl).frozen 1
  have hb2 := ((S1.below).setCell (p := ⟨w.heap.size, 0, none⟩) (Nat.le_refl _) (.int .u8 1)).setCell (p := ⟨w.heap.size, 1, none⟩) (Nat.le_refl _) (.slice (some ⟨g, 0, none⟩) 2 2)
  have hS2 : Blk ((w1.setCell ⟨w.heap.size, 0, none⟩ (.int .u8 1)).setCell ⟨w.heap.size, 1, none⟩ (.slice (some ⟨g, 0, none⟩) 2 2)) w.heap.size 59 #[.int .u8 1, .slice (some ⟨g, 0, none⟩) 2 2] := by simpa using ((S1.blk 0 rfl).set_ 0 (.int .u8 1)).set_ 1 (.slice (some ⟨g, 0, none⟩) 2 2)
  have hR2 := (hB.far (p := ⟨w.heap.size, 0, none⟩) hne (.int .u8 1)).far (p := ⟨w.heap.size, 1, none⟩) hne (.slice (some ⟨g, 0, none⟩) 2 2)
  have q0 := hS2.cell 0
  have q1 := hS2.cell 1
  go_wp2_with fail
  rw [← hg]
  refine bodyPost_ret (v := .agg #[.int .u8 1, .slice (some ⟨g, 0, none⟩) 2 2]) (by simp [results, Try.results32, go_sem, q0, q1]) rfl ?_
  exact ⟨g, rfl, by simpa using hR2, hb2⟩
end Go.Proofs.Ytfjdlbilnoojkaa
