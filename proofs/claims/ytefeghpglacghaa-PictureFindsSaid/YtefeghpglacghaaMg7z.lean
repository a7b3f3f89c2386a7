/- Parts of the proof, in their order. -/
import Derived.Test.YtefeghpglacghaaRMark15z
import Derived.Test.YtefeghpglacghaaChoices15z
import Derived.Test.YtefeghpglacghaaImz
import Derived.Test.YtefeghpglacghaaMg2z
import Derived.Deep.RegionHeld3
/- Which colours the reference marks: after all lists of indices, the choices of every thread. -/
namespace Go.Proofs.Ytefeghpglacghaa

/-- Whether colour d is marked for a pick whose only colour is q (all colours: q is negative). -/
def mkQ (q : Int) (d : Nat) : Bool := decide (q < 0) || q == (d : Int)
def mkI (cs : List Int) (a : Nat) (wv : List Int) (i d : Nat) : Bool := if i < a then mkE cs (wv.getD i 0) d else mkQ (pickN cs a wv (i - a) a) d
def Marks (a b : Nat) (cs : List Int) (v : Int) (F : Nat → Nat → Bool) : Prop :=
  ∀ i d, i < a + b → d < 16 → (F i d = true ↔ ∃ l, l.length = a ∧ Dig (pal cs).length l ∧ valN (pal cs).length l < v ∧ PicksOk cs a b (colL (pal cs) l) ∧ mkI cs a (colL (pal cs) l) i d = true)
section
variable {a b : Nat} {cs l : List Int} {F : Nat → Nat → Bool}
theorem Marks.start : Marks a b cs 0 (fun _ _ => false) := fun i d hi hd => by
  constructor
  · intro h; cases h
  · rintro ⟨l, _, h2, h3, _⟩
    have := (valN_lt h2).1
    omega
theorem Marks.skip (h : Marks a b cs (valN (pal cs).length l) F) (hl : l.length = a) (hd : Dig (pal cs).length l) (hno : ¬ PicksOk cs a b (colL (pal cs) l)) : Marks a b cs (valN (pal cs).length l + 1) F := fun i d hi hd16 => by
  rw [h i d hi hd16]
  constructor
  · rintro ⟨l', h1, h2, h3, h4⟩
    exact ⟨l', h1, h2, by omega, h4⟩
  · rintro ⟨l', h1, h2, h3, h4, h5⟩
    refine ⟨l', h1, h2, ?_, h4, h5⟩
    by_cases e : valN (pal cs).length l' = valN (pal cs).length l
    · rw [valN_inj h2 hd (h1.trans hl.symm) e] at h4
      exact absurd h4 hno
    · omega
theorem Marks.add (h : Marks a b cs (valN (pal cs).length l) F) (hl : l.length = a) (hd : Dig (pal cs).length l) (hok : PicksOk cs a b (colL (pal cs) l)) :
    Marks a b cs (valN (pal cs).length l + 1) (fun i d => F i d || mkI cs a (colL (pal cs) l) i d) := fun i d hi hd16 => by
  rw [Bool.or_eq_true, h i d hi hd16]
  constructor
  · rintro (⟨l', h1, h2, h3, h4⟩ | h1)
    · exact ⟨l', h1, h2, by omega, h4⟩
    · exact ⟨l, hl, hd, by omega, hok, h1⟩
  · rintro ⟨l', h1, h2, h3, h4, h5⟩
    by_cases e : valN (pal cs).length l' = valN (pal cs).length l
    · rw [valN_inj h2 hd (h1.trans hl.symm) e] at h5
      exact .inr h5
    · exact .inl ⟨l', h1, h2, by omega, h4, h5⟩
theorem Marks.all (hV : Val a b cs) (h : Marks a b cs (((pal cs).length ^ a : Nat) : Int) F) {i d : Nat} (hi : i < a + b) (hd : d < 16) : F i d = true ↔ Ch a b cs (if i < a then 0 else 1) (if i < a then i else i - a) (d : Int) := by
  rw [h i d hi hd]
  by_cases hia : i < a
  · rw [if_pos hia, if_pos hia, ch_end hV hia (by omega) (by omega)]
    constructor
    · rintro ⟨l, h1, h2, _, h4, h5⟩
      refine ⟨l, h1, h2, h4, ?_⟩
      unfold mkI mkE at h5
      rw [if_pos hia] at h5
      simpa using h5
    · rintro ⟨l, h1, h2, h4, h5⟩
      have hv := (valN_lt h2).2
      rw [h1] at hv
      refine ⟨l, h1, h2, hv, h4, ?_⟩
      unfold mkI mkE
      rw [if_pos hia]
      simpa using h5
  · rw [if_neg hia, if_neg hia, ch_pick hV (by omega) (by omega) (by omega)]
    constructor
    · rintro ⟨l, h1, h2, _, h4, h5⟩
      refine ⟨l, h1, h2, h4, ?_⟩
      unfold mkI mkQ at h5
      rw [if_neg hia] at h5
      simpa using h5
    · rintro ⟨l, h1, h2, h4, h5⟩
      have hv := (valN_lt h2).2
      rw [h1] at hv
      refine ⟨l, h1, h2, hv, h4, ?_⟩
      unfold mkI mkQ
      rw [if_neg hia]
      simpa using h5
theorem lstL_ch {k i : Nat} {f : Nat → Bool} (h : ∀ d, d < 16 → (f d = true ↔ Ch a b cs k i (d : Int))) : ∀ n, n ≤ 16 → lstL f n = chL a b cs k i n
  | 0, _ => rfl
  | n + 1, hn => by
    have ih := lstL_ch h n (by omega)
    have h1 := h n (by omega)
    cases hf : f n with
    | true => rw [lstL_yes hf, ih, chL_yes (h1.1 hf)]
    | false => rw [lstL_no hf, ih, chL_no (fun q => by rw [h1.2 q] at hf; cases hf)]
theorem Marks.ends (hV : Val a b cs) (h : Marks a b cs (((pal cs).length ^ a : Nat) : Int) F) {x : Nat} (hx : x < a) : lstL (F x) 16 = chL a b cs 0 x 16 :=
  lstL_ch (fun d hd => by have := h.all hV (i := x) (by omega) hd; rwa [if_pos hx, if_pos hx] at this) 16 (Nat.le_refl _)
theorem Marks.picks (hV : Val a b cs) (h : Marks a b cs (((pal cs).length ^ a : Nat) : Int) F) {y : Nat} (hy : y < b) : lstL (F (a + y)) 16 = chL a b cs 1 y 16 :=
  lstL_ch (fun d hd => by
    have := h.all hV (i := a + y) (by omega) hd
    rwa [if_neg (by omega), if_neg (by omega), show a + y - a = y by omega] at this) 16 (Nat.le_refl _)
end
end Go.Proofs.Ytefeghpglacghaa
/- raddleref14.Twin and Great; an image of at most 1,048,576 cells. -/
namespace Go.Proofs.Ytefeghpglacghaa
open Go.RowKit

set_option maxHeartbeats 4000000 in
set_option maxRecDepth 100000 in
theorem twinI_any (W H : Int) (A : Option Addr) (n c : Nat) (bs : List Int) (w : World) (hr : Rd w A n (bs.map (Value.int .i64))) (hn : n ≤ 1048576) :
    Calls Try.prog 19 #[.agg #[.int .i64 W, .int .i64 H, .slice A n c]] w (RetJ ⟨W, H, bs⟩ w) := by
  obtain ⟨i0, hi, hz0, hz1, hz2⟩ := info_parts Try.infoI
  obtain ⟨W0, hW0⟩ : ∃ W0, W0 = (w.alloc (.cells #[.int .i64 W, .int .i64 H, .slice A n c] 24)).alloc (.cells #[.int .i64 0, .int .i64 0, .slice none 0 0] 24) := ⟨_, rfl⟩
  have hG0 : Blk W0 w.heap.size 24 #[.int .i64 W, .int .i64 H, .slice A n c] := by rw [hW0]; exact (Blk.new w _ _).alloc _
  have hR0 : Blk W0 (w.heap.size + 1) 24 #[.int .i64 0, .int .i64 0, .slice none 0 0] := by rw [hW0]; simpa using Blk.new (w.alloc (.cells #[.int .i64 W, .int .i64 H, .slice A n c] 24)) 24 #[.int .i64 0, .int .i64 0, .slice none 0 0]
  have hB0 : Below w.heap.size w W0 := by rw [hW0]; exact Joins.below_alloc2 w _ _
  have hs0 : W0.heap.size = w.heap.size + 1 + 1 := by rw [hW0]; simp
  have hown0 : (W0.alloc (.cells #[] 3)).drew.ownsRow (w.heap.size + 1 + 1) 3 1 (.slice (some ⟨W0.heap.size, 0, none⟩) 0 0) 0 [] := World.ownsRow_lit W0 #[] 0 (by omega) (Nat.zero_le _) rfl
  obtain ⟨c0, c1, c2⟩ := hG0.cell3
  have hr0 : Rd (W0.alloc (.cells #[] 3)).drew A n (bs.map (Value.int .i64)) := ((hr.below hB0).alloc _).drew
  have HS0 := Lib.hid hs0
  go_enter Try.func19, Try.ntmps19
  go_wp2_with fail
  rw [← hW0]
  clear hW0 hs0
  go_region_held3 (fun w' => w'.cell? ⟨w.heap.size, 0, none⟩ = some (.int .i64 W) ∧ w'.cell? ⟨w.heap.size, 1, none⟩ = some (.int .i64 H) ∧ w'.cell? ⟨w.heap.size, 2, none⟩ = some (.slice A n c))
    (first | exact hG3.cell3 | exact (hG0.alloc _).cell3 | exact hG0.cell3 | go_keep)
    (first
      | (refine step_app_all _ rfl (.tmp 7) (.tmp 9) 22 rfl (w.heap.size + 1 + 1) 3 i0 (.int .i64 0) 8 Try.underlying22 hi hz0 hz1 hz2 rfl (by decide) (.slice (some ⟨W0.heap.size, 0, none⟩) 0 0) 0 [] rfl hown0 A n c _ rfl hr0 (oneCell_ints bs) (by omega) (size_alloc_le (Nat.le_of_eq HS0.out.symm) _) ?_; intro A3 c3 w3 hown3 hgr3; have hG3 := (hG0.alloc _).drew.grown hgr3 (own_blk_ne hown0 ((hG0.alloc _).drew) (by decide)); have hR3 := (hR0.alloc _).drew.grown hgr3 (own_blk_ne hown0 ((hR0.alloc _).drew) (by decide)); obtain ⟨r0, r1, r2⟩ := hR3.cell3; obtain ⟨f0, f1, f2⟩ := hR3.frozen3)
      | fail)
  clear r0 r1 r2 f0 f1 f2 c0 c1 c2
  obtain ⟨q0, q1, q2⟩ := (hR3.set3 (.int .i64 W) (.int .i64 H) (.slice A3 (0 + n) c3)).cell3
  have hb3 : Below w.heap.size w w3 := ((hB0.alloc hB0.size _).drew).grown hgr3 (Nat.le_trans hB0.size (by simp)) (fun k hk => Nat.le_trans (by omega) (hown0.lt k hk).1)
  have R1 := Lib.hid (own_set3 (own_base hown3 (B := w.heap.size) (by omega)) hR3 (by decide) (.int .i64 W) (.int .i64 H) (.slice A3 (0 + n) c3))
  have R2 := Lib.hid (below_set3 hb3 (R := w.heap.size + 1) (by omega) (.int .i64 W) (.int .i64 H) (.slice A3 (0 + n) c3))
  clear hown3 hgr3 hG3 hR3 hb3 hown0 hr0 hG0 hR0 hB0
  go_wp2_with fail
  simp only [Nat.zero_add] at q0 q1 q2 R1 R2
  refine bodyPost_ret (v := .agg #[.int .i64 W, .int .i64 H, .slice A3 n c3]) (by simp [results, Try.results19, go_sem, q0, q1, q2]) rfl ?_
  exact ⟨A3, n, c3, rfl, R1.out, R2.out⟩

theorem greatI_any (W H : Int) (A : Option Addr) (n c : Nat) (w : World) :
    Calls Try.prog 17 #[.agg #[.int .i64 W, .int .i64 H, .slice A n c]] w fun e w' => e = .returned (.bool (decide (4200 < n))) ∧ Below w.heap.size w w' := by
  go_enter Try.func17, Try.ntmps17
  go_wp2
  go_ret
  exact ⟨by simp; omega, (Below.refl _ _).alloc (Nat.le_refl _) _⟩
end Go.Proofs.Ytefeghpglacghaa
