/- draft.Check and draft.Weave of a draft that is fine. -/
import Derived.Test.YtmajmbfbnchbfaaMinMaxz
import Derived.Test.YtmajmbfbnchbfaaMg8z
import Derived.Test.YtmajmbfbnchbfaaTable3z
namespace Go.Proofs.Ytmajmbfbnchbfaa
open Go.RowKit

theorem Blk.cell7 {w : World} {g : Nat} {t : TypeId} {a b c d e f k : Value} (h : Blk w g t #[a, b, c, d, e, f, k]) :
    w.cell? ⟨g, 0, none⟩ = some a ∧ w.cell? ⟨g, 1, none⟩ = some b ∧ w.cell? ⟨g, 2, none⟩ = some c ∧ w.cell? ⟨g, 3, none⟩ = some d ∧ w.cell? ⟨g, 4, none⟩ = some e ∧ w.cell? ⟨g, 5, none⟩ = some f ∧ w.cell? ⟨g, 6, none⟩ = some k :=
  ⟨h.cell 0, h.cell 1, h.cell 2, h.cell 3, h.cell 4, h.cell 5, h.cell 6⟩
/-- A draft that is fine. -/
structure DOk (s t nh nr : Nat) (th tr : List Int) (tb : List Bool) : Prop where
  s1 : 1 ≤ s
  s2 : s ≤ 40
  t1 : 1 ≤ t
  t2 : t ≤ 40
  h1 : 1 ≤ nh
  h2 : nh ≤ 64
  r1 : 1 ≤ nr
  r2 : nr ≤ 64
  hl : th.length = nh
  rl : tr.length = nr
  hx : ∀ x ∈ th, 0 ≤ x ∧ x < s
  rx : ∀ x ∈ tr, 0 ≤ x ∧ x < t
  bl : tb.length = s * t
set_option maxHeartbeats 2000000 in
set_option maxRecDepth 100000 in
theorem dcheck_any (s t bt ot ct bh oh nh ch br or nr cr : Nat) (th tr : List Int) (tb : List Bool) (w : World) (K : DOk s t nh nr th tr tb)
    (hh : Rd w (some ⟨bh, oh, none⟩) nh (th.map (Value.int .i64))) (hd : Rd w (some ⟨br, or, none⟩) nr (tr.map (Value.int .i64))) :
    Calls Try.prog 21 #[.agg (dC s t (.slice (some ⟨bh, oh, none⟩) nh ch) (.slice (some ⟨br, or, none⟩) nr cr) bt ot ct)] w fun e w' => e = .returned (.int .i64 0) ∧ Below w.heap.size w w' := by
  unfold dC
  have S0 := (St.start w).box (dC s t (.slice (some ⟨bh, oh, none⟩) nh ch) (.slice (some ⟨br, or, none⟩) nr cr) bt ot ct) 27
  simp only [List.nil_append, dC] at S0
  have H1 := Lib.hid (fun u (hu : Below w.heap.size w u) => within_any th s bh oh nh ch u (hh.below hu) K.h1 (by have := K.h2; omega) K.hx)
  have H2 := Lib.hid (fun u (hu : Below w.heap.size w u) => within_any tr t br or nr cr u (hd.below hu) K.r1 (by have := K.r2; omega) K.rx)
  have HCK := Lib.hid (show ∀ u, Calls Try.prog 43 #[.agg #[.int .i64 t, .int .i64 s, .slice (some ⟨bt, ot, none⟩) (s * t) ct]] u (fun e w' => e = .returned (.int .i64 0) ∧ Below u.heap.size u w') from fun u => by
    have h1 := check_any t s (some ⟨bt, ot, none⟩) (s * t) ct u
    have := K.s1; have := K.s2; have := K.t1; have := K.t2
    rwa [chk_ok (by omega) (by omega) (by omega) (by omega) (by rw [Nat.mul_comm]; push_cast; rfl)] at h1)
  have d1 : decide (40 < (s : Int)) = false := decide_eq_false (by have := K.s2; omega)
  have d2 : decide (40 < (t : Int)) = false := decide_eq_false (by have := K.t2; omega)
  have d1n : decide (40 < s) = false := decide_eq_false (by have := K.s2; omega)
  have d2n : decide (40 < t) = false := decide_eq_false (by have := K.t2; omega)
  have hk1 : nh ≤ 64 := K.h2
  have hk2 : nr ≤ 64 := K.r2
  obtain ⟨c0, c1, c2, c3, c4, c5, c6⟩ := (S0.blk 0 rfl).cell7
  clear hh hd K
  by_cases hlt : nh < nr
  all_goals
    go_enter Try.func21, Try.ntmps21
    go_wp2_with fail
    refine (H1.out _ S0.below).mono ?_
    rintro e w1 ⟨rfl, hb1⟩
    have S1 := S0.keep hb1
    clear c0 c1 c2 c3 c4 c5 c6 S0 hb1
    obtain ⟨c0, c1, c2, c3, c4, c5, c6⟩ := (S1.blk 0 rfl).cell7
    go_wp2_with fail
    refine (H2.out _ S1.below).mono ?_
    rintro e w2 ⟨rfl, hb2⟩
    have S2 := S1.keep hb2
    clear c0 c1 c2 c3 c4 c5 c6 S1 hb2
    obtain ⟨c0, c1, c2, c3, c4, c5, c6⟩ := (S2.blk 0 rfl).cell7
    go_wp2_with fail
    refine (HCK.out _).mono ?_
    rintro e w3 ⟨rfl, hb3⟩
    have S3 := S2.keep hb3
    clear c0 c1 c2 c3 c4 c5 c6 S2 hb3
    obtain ⟨c0, c1, c2, c3, c4, c5, c6⟩ := (S3.blk 0 rfl).cell7
    go_wp2_with fail
    go_ret
    exact ⟨rfl, S3.below⟩
set_option maxHeartbeats 2000000 in
set_option maxRecDepth 100000 in
theorem weave3_any (s t bt ot ct bh oh nh ch br or nr cr : Nat) (th tr : List Int) (tb : List Bool) (w : World) (K : DOk s t nh nr th tr tb)
    (hh : Rd w (some ⟨bh, oh, none⟩) nh (th.map (Value.int .i64))) (hd : Rd w (some ⟨br, or, none⟩) nr (tr.map (Value.int .i64))) (ht : Rd w (some ⟨bt, ot, none⟩) (s * t) (tb.map Value.bool)) :
    Calls Try.prog 6 #[.agg (dC s t (.slice (some ⟨bh, oh, none⟩) nh ch) (.slice (some ⟨br, or, none⟩) nr cr) bt ot ct)] w fun e w' =>
      ∃ A c, e = .returned (.tuple #[.agg #[.int .i64 nh, .int .i64 nr, .slice A (nr * nh) c], .int .i64 0]) ∧ w'.ownsRow w.heap.size 4 1 (.slice A (nr * nh) c) (nr * nh) ((Pl.tab nh nr (wovF th tr tb t)).map Value.bool) ∧ Below w.heap.size w w' := by
  have HCK := Lib.hid (fun u (hu : Below w.heap.size w u) => dcheck_any s t bt ot ct bh oh nh ch br or nr cr th tr tb u K (hh.below hu) (hd.below hu))
  have S0 := ((St.start w).box (dC s t (.slice (some ⟨bh, oh, none⟩) nh ch) (.slice (some ⟨br, or, none⟩) nr cr) bt ot ct) 27).box #[.int .i64 0, .int .i64 0, .slice none 0 0] 25
  simp only [List.nil_append, List.cons_append, size_alloc1] at S0
  have HG := Lib.hid (fun u (hu : Below w.heap.size w u) (hb : Blk u w.heap.size 27 (dC s t (.slice (some ⟨bh, oh, none⟩) nh ch) (.slice (some ⟨br, or, none⟩) nr cr) bt ot ct)) =>
    table_any 23 #[.pointer (some ⟨w.heap.size, 0, none⟩)] nh nr (wovF th tr tb t) u K.h2 K.r2 (fun args w => rfl) (wov_gives s t w.heap.size bt ot ct bh oh nh ch br or nr cr th tr tb u (by have := K.s2; omega) (by have := K.t2; omega) K.hx K.rx hb (ht.below hu) (hh.below hu) (hd.below hu)))
  clear hh hd ht K
  have D0 := S0.blk 0 rfl
  unfold dC at D0
  obtain ⟨c0, c1, c2, c3, c4, c5, c6⟩ := D0.cell7
  clear D0
  unfold dC at HCK ⊢
  go_enter Try.func6, Try.ntmps6
  go_wp2_with fail
  refine (HCK.out _ S0.below).mono ?_
  rintro e w1 ⟨rfl, hb1⟩
  have S1 := S0.keep hb1
  clear c0 c1 c2 c3 c4 c5 c6 S0 hb1
  have D1 := S1.blk 0 rfl
  replace HG := Lib.hid (HG.out _ S1.below D1)
  unfold dC at D1
  obtain ⟨c0, c1, c2, c3, c4, c5, c6⟩ := D1.cell7
  clear D1
  go_wp2_with fail
  refine HG.out.mono ?_
  rintro e w2 ⟨A, cA, rfl, hown, hb2⟩
  have S2 := S1.keep hb2
  have hown2 := own_base hown S1.below.size
  clear c0 c1 c2 c3 c4 c5 c6 S1 hb2 hown
  obtain ⟨f0, f1, f2⟩ := (S2.blk 1 rfl).frozen3
  obtain ⟨p0, p1, p2⟩ := (S2.blk 1 rfl).cell3
  have hS := (S2.blk 1 rfl).set3 (.int .i64 nh) (.int .i64 nr) (.slice A (nr * nh) cA)
  obtain ⟨q0, q1, q2⟩ := hS.cell3
  go_wp2_with fail
  refine bodyPost_ret (v := .tuple #[.agg #[.int .i64 nh, .int .i64 nr, .slice A (nr * nh) cA], .int .i64 0]) (by simp [results, Try.results6, go_sem, q0, q1, q2]) rfl ?_
  exact ⟨A, cA, rfl, own_set3 hown2 (S2.blk 1 rfl) (by decide) _ _ _, below_set3 S2.below (Nat.le_succ _) _ _ _⟩
end Go.Proofs.Ytmajmbfbnchbfaa
