/- A grouped draft in memory while its rows are written, and what its tie holds. -/
import Derived.Test.YtmajmbfbnchbfaaTwoz
import Derived.Test.YtmajmbfbnchbfaaSrchz
import Derived.Test.YtmajmbfbnchbfaaWeave3z
namespace Go.Proofs.Ytmajmbfbnchbfaa
open Go.RowKit

/-- All cells of rows before y, and x cells of row y, stand in the tie. -/
def TieOk (a h : Nat) (gb : List Bool) (l : List Int) (y x : Nat) (tb : List Bool) : Prop :=
  tb.length = a * h ∧ ∀ x' y', x' < a → y' < h → (y' < y ∨ (y' = y ∧ x' < x)) → tb.getD ((l.getD x' 0).toNat * h + y') false = gb.getD (y' * a + x') false
theorem TieOk.start (a h : Nat) (gb : List Bool) (l : List Int) : TieOk a h gb l 0 0 (List.replicate (a * h) false) := ⟨by simp, fun x' y' _ _ h => by omega⟩
theorem TieOk.row {a h y : Nat} {gb tb : List Bool} {l : List Int} (H : TieOk a h gb l y a tb) : TieOk a h gb l (y + 1) 0 tb := ⟨H.1, fun x' y' hx hy hh => H.2 x' y' hx hy (by omega)⟩
theorem TieOk.set {a h x y : Nat} {gb tb : List Bool} {l : List Int} (H : TieOk a h gb l y x tb) (hx : x < a) (hy : y < h) (hl : ∀ x, x < a → (l.getD x 0).toNat < a)
    (hg : ∀ x x' y, x < a → x' < a → y < h → (l.getD x 0).toNat = (l.getD x' 0).toNat → gb.getD (y * a + x) false = gb.getD (y * a + x') false) :
    TieOk a h gb l y (x + 1) (tb.set ((l.getD x 0).toNat * h + y) (gb.getD (y * a + x) false)) := by
  refine ⟨by rw [List.length_set]; exact H.1, fun x' y' hx' hy' hh => ?_⟩
  have hb : (l.getD x 0).toNat * h + y < a * h := Pl.cell_lt hy (hl x hx)
  by_cases he : (l.getD x' 0).toNat * h + y' = (l.getD x 0).toNat * h + y
  · obtain ⟨h1, h2⟩ := Pl.cell_inj hy' hy he
    subst h1
    rw [he, List.getD_eq_getElem?_getD, List.getElem?_set_self (by rw [H.1]; exact hb), Option.getD_some]
    exact hg x x' y' hx hx' hy' h2.symm
  · rw [List.getD_eq_getElem?_getD, List.getElem?_set_ne (fun e => he e.symm), ← List.getD_eq_getElem?_getD]
    refine H.2 x' y' hx' hy' ?_
    rcases hh with hh | ⟨rfl, hh⟩
    · exact .inl hh
    · refine .inr ⟨rfl, ?_⟩
      rcases Nat.lt_succ_iff_lt_or_eq.1 hh with h3 | h3
      · exact h3
      · subst h3
        exact absurd rfl he
theorem own_ne {w : World} {b1 b2 e1 e2 s1 s2 n1 n2 : Nat} {v1 v2 : Value} {xs ys : List Value} (h1 : w.ownsRow b1 e1 s1 v1 n1 xs) (h2 : w.ownsRow b2 e2 s2 v2 n2 ys) (he : e1 ≠ e2) : v1.ownBlock = none ∨ v1.ownBlock ≠ v2.ownBlock := by
  rcases h1.2 with ⟨rfl, _⟩ | ⟨g, cap, cur, rfl, _, hh, _⟩
  · exact .inl rfl
  · refine .inr fun e => ?_
    rcases h2.2 with ⟨rfl, _⟩ | ⟨g', cap', cur', rfl, _, hh', _⟩
    · simp [Value.ownBlock] at e
    · obtain rfl : g = g' := by simpa [Value.ownBlock] using e
      rw [hh] at hh'
      simp at hh'
      exact he hh'.2
theorem below_dr (u : World) : Below u.heap.size u u.drew := (Below.refl _ _).drew
/-- The numbers below n. -/
def rngI (n : Nat) : List Int := (List.range n).map fun i : Nat => (i : Int)
theorem rngI_succ (n : Nat) : rngI (n + 1) = rngI n ++ [(n : Int)] := by unfold rngI; rw [List.range_succ, List.map_append]; rfl
structure GS (w : World) (B a h bA oA c b o cl gt ct : Nat) (vr : Value) (nr : Nat) (tb : List Bool) (u : World) : Prop where
  d : Blk u B 27 (dC a h (.slice (some ⟨b, o, none⟩) a cl) vr gt 0 ct)
  g0 : Blk u w.heap.size 25 #[.int .i64 a, .int .i64 h, .slice (some ⟨bA, oA, none⟩) (h * a) c]
  r0 : Blk u (w.heap.size + 1) 27 #[.int .i64 0, .int .i64 0, .slice none 0 0, .slice none 0 0, .int .i64 0, .int .i64 0, .slice none 0 0]
  ot : u.ownsRow w.heap.size 4 1 (.slice (some ⟨gt, 0, none⟩) (a * h) ct) (a * h) (tb.map Value.bool)
  otr : u.ownsRow w.heap.size 3 1 vr nr ((rngI nr).map (Value.int .i64))
  bel : Below w.heap.size w u
  hB : w.heap.size ≤ B
  hB0 : B ≠ w.heap.size
  hB1 : B ≠ w.heap.size + 1
section
variable {w u u' w3 : World} {B a h bA oA c b o cl gt ct : Nat} {vr : Value} {nr : Nat} {tb tb' : List Bool}
theorem GS.keep (H : GS w B a h bA oA c b o cl gt ct vr nr tb u) (hb : Below u.heap.size u u') : GS w B a h bA oA c b o cl gt ct vr nr tb u' :=
  ⟨H.d.keep hb, H.g0.keep hb, H.r0.keep hb, own_keep H.ot hb, own_keep H.otr hb, below_then H.bel hb, H.hB, H.hB0, H.hB1⟩
theorem GS.cells (H : GS w B a h bA oA c b o cl gt ct vr nr tb u) : u.cell? ⟨B, 4, none⟩ = some (.int .i64 h) ∧ u.cell? ⟨B, 5, none⟩ = some (.int .i64 a) ∧ u.cell? ⟨B, 6, none⟩ = some (.slice (some ⟨gt, 0, none⟩) (a * h) ct) := by
  have D := H.d
  unfold dC at D
  have h7 := D.cell7
  exact ⟨h7.2.2.2.2.1, h7.2.2.2.2.2.1, h7.2.2.2.2.2.2⟩
theorem GS.app (H : GS w B a h bA oA c b o cl gt ct vr nr tb u) {g cap : Nat} (ob : Obj) (ho : w3.ownsRow w.heap.size 3 1 (.slice (some ⟨g, 0, none⟩) (nr + 1) cap) (nr + 1) ((rngI nr).map (Value.int .i64) ++ [.int .i64 (nr : Int)]))
    (hg : (u.alloc ob).grownBy w3 vr.ownBlock) : GS w B a h bA oA c b o cl gt ct (.slice (some ⟨g, 0, none⟩) (nr + 1) cap) (nr + 1) tb (w3.setCell ⟨B, 3, none⟩ (.slice (some ⟨g, 0, none⟩) (nr + 1) cap)) := by
  have hsx := H.bel.size
  have kd := (H.d.alloc ob).grown hg (own_blk_ne H.otr H.d (by decide))
  have kg := (H.g0.alloc ob).grown hg (own_blk_ne H.otr H.g0 (by decide))
  have kr := (H.r0.alloc ob).grown hg (own_blk_ne H.otr H.r0 (by decide))
  have ko := (H.ot.alloc ob).kept hg (own_ne (H.ot.alloc ob) (H.otr.alloc ob) (by decide))
  refine ⟨by simpa [dC] using kd.set_ 3 (.slice (some ⟨g, 0, none⟩) (nr + 1) cap), kg.far (p := ⟨B, 3, none⟩) (fun e => H.hB0 e.symm) _, kr.far (p := ⟨B, 3, none⟩) (fun e => H.hB1 e.symm) _, own_far ko (own_blk_ne ko kd (by decide)) _, ?_, ((H.bel.alloc hsx ob).grown hg (size_alloc_le hsx ob) (fun q hq => (H.otr.lt q hq).1)).setCell H.hB _, H.hB, H.hB0, H.hB1⟩
  rw [rngI_succ, List.map_append]
  exact own_far ho (own_blk_ne ho kd (by decide)) _
theorem GS.set (H : GS w B a h bA oA c b o cl gt ct vr nr tb u) (ho : u'.ownsRow w.heap.size 4 1 (.slice (some ⟨gt, 0, none⟩) (a * h) ct) (a * h) (tb'.map Value.bool)) (hg : u.grownBy u' (some gt)) : GS w B a h bA oA c b o cl gt ct vr nr tb' u' :=
  ⟨H.d.grown hg (own_blk_ne H.ot H.d (by decide)), H.g0.grown hg (own_blk_ne H.ot H.g0 (by decide)), H.r0.grown hg (own_blk_ne H.ot H.r0 (by decide)), ho, H.otr.kept hg (own_ne H.otr H.ot (by decide)),
    H.bel.grown hg H.bel.size (fun q hq => by cases hq; exact (H.ot.lt gt rfl).1), H.hB, H.hB0, H.hB1⟩
end
/-- A whole variable of seven cells stored anew. -/
def set7 (w : World) (g : Nat) (a b c d e f k : Value) : World := ((((((w.setCell ⟨g, 0, none⟩ a).setCell ⟨g, 1, none⟩ b).setCell ⟨g, 2, none⟩ c).setCell ⟨g, 3, none⟩ d).setCell ⟨g, 4, none⟩ e).setCell ⟨g, 5, none⟩ f).setCell ⟨g, 6, none⟩ k
theorem grown_one {w w' : World} {g : Nat} (h : w.grownBy w' (some g)) (i : Nat) (u : Value) : w.grownBy (w'.setCell ⟨g, i, none⟩ u) (some g) :=
  ⟨h.os, h.tape, h.output, by rw [show (w'.setCell ⟨g, i, none⟩ u).heap.size = w'.heap.size from by simp [World.setCell]]; exact h.size, fun k hk hne => (Below.heap_setCell w' _ u k (fun e => hne (by rw [e]))).trans (h.block k hk hne)⟩
theorem grown_set7 (w : World) (g : Nat) (a b c d e f k : Value) : w.grownBy (set7 w g a b c d e f k) (some g) :=
  grown_one (grown_one (grown_one (grown_one (grown_one (grown_one (grown_one ⟨rfl, rfl, rfl, Nat.le_refl _, fun _ _ _ => rfl⟩ 0 a) 1 b) 2 c) 3 d) 4 e) 5 f) 6 k
theorem Blk.set7 {w : World} {g : Nat} {t : TypeId} {x0 x1 x2 x3 x4 x5 x6 : Value} (h : Blk w g t #[x0, x1, x2, x3, x4, x5, x6]) (a b c d e f k : Value) : Blk (set7 w g a b c d e f k) g t #[a, b, c, d, e, f, k] := by
  unfold Proofs.Ytmajmbfbnchbfaa.set7
  simpa using ((((((h.set_ 0 a).set_ 1 b).set_ 2 c).set_ 3 d).set_ 4 e).set_ 5 f).set_ 6 k
theorem GS.start1 {w u wz : World} {a h bA oA c b o cl gt ct : Nat} {tb : List Bool} (S : St w [Fact.blk w.heap.size 25 #[.int .i64 a, .int .i64 h, .slice (some ⟨bA, oA, none⟩) (h * a) c], Fact.blk (w.heap.size + 1) 27 #[.int .i64 0, .int .i64 0, .slice none 0 0, .slice none 0 0, .int .i64 0, .int .i64 0, .slice none 0 0]] wz) (hu : w.heap.size ≤ u.heap.size)
    (ho : wz.ownsRow u.heap.size 4 1 (.slice (some ⟨gt, 0, none⟩) (a * h) ct) (a * h) (tb.map Value.bool)) :
    GS w wz.heap.size a h bA oA c b o cl gt ct (.slice none 0 0) 0 tb (wz.alloc (.cells #[.int .i64 a, .int .i64 h, .slice (some ⟨b, o, none⟩) a cl, .slice none 0 0, .int .i64 h, .int .i64 a, .slice (some ⟨gt, 0, none⟩) (a * h) ct] 27)) :=
  ⟨Blk.new wz _ _, (S.blk 0 rfl).alloc _, (S.blk 1 rfl).alloc _, (own_grow ho hu).alloc _, World.ownsRow_nil _ _ _ _, S.below.alloc S.size _, S.size, Nat.ne_of_gt (S.blk 0 rfl).lt, Nat.ne_of_gt (S.blk 1 rfl).lt⟩
theorem GS.start2 {w u wz : World} {a h bA oA c b o cl gt ct : Nat} {tb : List Bool} {x0 x1 x2 x3 x4 x5 x6 : Value} (S : St w [Fact.blk w.heap.size 25 #[.int .i64 a, .int .i64 h, .slice (some ⟨bA, oA, none⟩) (h * a) c], Fact.blk (w.heap.size + 1) 27 #[.int .i64 0, .int .i64 0, .slice none 0 0, .slice none 0 0, .int .i64 0, .int .i64 0, .slice none 0 0]] wz) (hu : w.heap.size ≤ u.heap.size)
    (ho : wz.ownsRow u.heap.size 4 1 (.slice (some ⟨gt, 0, none⟩) (a * h) ct) (a * h) (tb.map Value.bool)) (hz : Blk wz (w.heap.size + 2) 27 #[x0, x1, x2, x3, x4, x5, x6]) :
    GS w (w.heap.size + 2) a h bA oA c b o cl gt ct (.slice none 0 0) 0 tb (set7 wz (w.heap.size + 2) (.int .i64 a) (.int .i64 h) (.slice (some ⟨b, o, none⟩) a cl) (.slice none 0 0) (.int .i64 h) (.int .i64 a) (.slice (some ⟨gt, 0, none⟩) (a * h) ct)) := by
  have hg := grown_set7 wz (w.heap.size + 2) (.int .i64 a) (.int .i64 h) (.slice (some ⟨b, o, none⟩) a cl) (.slice none 0 0) (.int .i64 h) (.int .i64 a) (.slice (some ⟨gt, 0, none⟩) (a * h) ct)
  exact ⟨hz.set7 _ _ _ _ _ _ _, (S.blk 0 rfl).grown hg (by simp), (S.blk 1 rfl).grown hg (by simp), (own_grow ho hu).kept hg (.inr fun e => own_blk_ne ho hz (by decide) e.symm), World.ownsRow_nil _ _ _ _, S.below.grown hg S.size (fun k hk => by cases hk; omega), by omega, by omega, by omega⟩
theorem Blk.frozen7 {w : World} {g : Nat} {t : TypeId} {a b c d e f k : Value} (h : Blk w g t #[a, b, c, d, e, f, k]) :
    w.frozen? ⟨g, 0, none⟩ = false ∧ w.frozen? ⟨g, 1, none⟩ = false ∧ w.frozen? ⟨g, 2, none⟩ = false ∧ w.frozen? ⟨g, 3, none⟩ = false ∧ w.frozen? ⟨g, 4, none⟩ = false ∧ w.frozen? ⟨g, 5, none⟩ = false ∧ w.frozen? ⟨g, 6, none⟩ = false :=
  ⟨h.frozen 0, h.frozen 1, h.frozen 2, h.frozen 3, h.frozen 4, h.frozen 5, h.frozen 6⟩
end Go.Proofs.Ytmajmbfbnchbfaa
