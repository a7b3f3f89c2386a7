/- The contracts of layer 15 at the examples of the law PictureNames. -/
import Derived.Test.YtefeghpglacghaaAlive15z
import Derived.Test.YtefeghpglacghaaFirstTz
import Derived.Test.YtefeghpglacghaaHas15z
import Derived.Test.YtefeghpglacghaaWeave15z
import Derived.Test.YtefeghpglacghaaShows15z
import Derived.Test.YtefeghpglacghaaMg9z
import Derived.Test.YtefeghpglacghaaMg2z
import Derived.Test.YtefeghpglacghaaRCellz
namespace Go.Proofs.Ytefeghpglacghaa
open Go.RowKit

section
variable {P : Program} {md : Region.Mode} {ops : Array Oper} {Q : Exit → Act → World → Prop} {S : World → Prop} {fuel : Nat} {listed : Array Bool} {a : Act} {w : World}
theorem man_four (i j k l : Nat) {o o' o'' o3 : Oper} (ho : ops[i]? = some o) (ho' : ops[j]? = some o') (ho'' : ops[k]? = some o'') (ho3 : ops[l]? = some o3) (hr : Region.ready md ops listed = [i, j, k, l])
    (h : ∀ K' : Act → World → Prop, Shut (∀ a w, S w → (S w → wpAnyH P md ops Q S fuel (listed.setIfInBounds i true) a w) → K' a w) → if Region.wanted o (yielded ops a.tmps) = true then Oper.wp P o a w K' Q else K' (a.put o.dst undef) w)
    (h' : ∀ K' : Act → World → Prop, Shut (∀ a w, S w → (S w → wpAnyH P md ops Q S fuel (listed.setIfInBounds j true) a w) → K' a w) → if Region.wanted o' (yielded ops a.tmps) = true then Oper.wp P o' a w K' Q else K' (a.put o'.dst undef) w)
    (h'' : ∀ K' : Act → World → Prop, Shut (∀ a w, S w → (S w → wpAnyH P md ops Q S fuel (listed.setIfInBounds k true) a w) → K' a w) → if Region.wanted o'' (yielded ops a.tmps) = true then Oper.wp P o'' a w K' Q else K' (a.put o''.dst undef) w)
    (h3 : ∀ K' : Act → World → Prop, Shut (∀ a w, S w → (S w → wpAnyH P md ops Q S fuel (listed.setIfInBounds l true) a w) → K' a w) → if Region.wanted o3 (yielded ops a.tmps) = true then Oper.wp P o3 a w K' Q else K' (a.put o3.dst undef) w) :
    wpAnyH P md ops Q S (fuel + 1) listed a w := wpAnyH_ready hr (by simp) (AllReadyH.cons ho h (AllReadyH.cons ho' h' (AllReadyH.cons ho'' h'' (AllReadyH.cons ho3 h3 AllReadyH.nil))))
end
/-- Two grids that are not there, with their error. -/
def ErrC (t : Int) (w : World) (e : Ending) (w' : World) : Prop := ∃ P np cp Q nq cq, e = .returned (.tuple #[.agg #[.int .i64 0, .int .i64 0, .slice P np cp], .agg #[.int .i64 0, .int .i64 0, .slice Q nq cq], .int .i64 t]) ∧ Below w.heap.size w w'
theorem errC_of {t : Int} {w w' : World} {e : Ending} {r : (Gd × Gd) × Int} (h : RetC r w e w') (hr : r = ((Gd.zero, Gd.zero), t)) : ErrC t w e w' := by
  subst hr
  obtain ⟨P, np, cp, Q, nq, cq, rfl, _, _, _, hb⟩ := h
  exact ⟨P, np, cp, Q, nq, cq, rfl, hb⟩
abbrev mI : Im := ⟨2, 2, [0, 1, 1, 1]⟩
theorem pn_cells {m : Im} {p q : List Int} {t : Int} (h : thrI m p q = t) (ht : t ≠ 0) : cellsI m p q = ((Gd.zero, Gd.zero), t) := by rw [cellsI_bad (by rw [h]; exact ht), h]
theorem pn_none : cellsI mI [0, 0] [0, 0] = ((Gd.zero, Gd.zero), 6) := cellsI_none (a := 2) (b := 2) (by decide +kernel) (by decide +kernel)
theorem pn_like {g : Gd} {t : Int} (h : likeG g mI = t) (ht : t ≠ 0) : weaveI mI [0, 0] [0, 0] g = (Gd.zero, t) := by rw [weaveI_like (by decide +kernel) (by rw [h]; exact ht), h]
theorem pn_wnone : weaveI mI [0, 0] [0, 0] ⟨2, 2, List.replicate 4 false⟩ = (Gd.zero, 6) := weaveI_none (a := 2) (b := 2) (by decide +kernel) (by decide +kernel) (by decide +kernel)
def wvX : Gd := ⟨2, 2, [true, true, false, true]⟩
theorem pn_woven : weaveI mI [0, 1] [1, 1] ⟨2, 2, [true, true, true, true]⟩ = (wvX, 0) := by
  rw [show mI = (⟨((2 : Nat) : Int), ((2 : Nat) : Int), [0, 1, 1, 1]⟩ : Im) from rfl, weaveI_ok (a := 2) (b := 2) (by decide +kernel) (by decide +kernel) (by decide +kernel)]
  rfl
theorem pn_show1 : showsI ⟨3, 2, List.replicate 6 false⟩ mI [0, 1] [0, 1] = (false, 26) := Prod.ext (by decide +kernel) (by decide +kernel)
theorem pn_show2 : showsI ⟨2, 2, List.replicate 4 false⟩ mI [0, 0] [0, 0] = (false, 0) := Prod.ext (by decide +kernel) (by decide +kernel)
theorem pn_one : FirstR 1 1 [7] [0] [7] 0 := by
  have h := Tried.done (a := 1) (b := 1) (cs := [7]) (l := List.replicate 1 0) (val_of (by decide +kernel)) Tried.start rfl (Dig.zeros 1 pal_pos) (by decide +kernel)
  rw [show colL (pal [7]) (List.replicate 1 0) = [0] by decide +kernel, show picksL [7] 1 [0] 1 = [7] by decide +kernel] at h
  exact h
theorem pn_fit (k : Nat) (hk : k < 2) (c : Int) (h0 : 0 ≤ c) (h1 : c < 16) : Ch 1 1 [7] k 0 c := by
  refine ⟨fun k' i => if k' = k then c else 7, ⟨fun x y hx hy => ?_, fun k' i hk' hi => ?_⟩, if_pos rfl⟩
  · obtain rfl : x = 0 := by have : x < 1 := hx; omega
    obtain rfl : y = 0 := by have : y < 1 := hy; omega
    rcases (show k = 0 ∨ k = 1 by omega) with rfl | rfl
    · exact .inr rfl
    · exact .inl rfl
  · show 0 ≤ (if k' = k then c else 7) ∧ (if k' = k then c else 7) ≤ 15
    split <;> omega
theorem pn_len (k : Nat) (hk : k < 2) : ∀ n, n ≤ 16 → (chL 1 1 [7] k 0 n).length = n
  | 0, _ => rfl
  | n + 1, hn => by rw [chL_yes (pn_fit k hk n (by omega) (by omega)), List.length_append, pn_len k hk n (by omega)]; rfl
theorem kfirst1 (A : Option Addr) (c : Nat) (w : World) (hr : Rd w A 1 (([7] : List Int).map (Value.int .i64))) :
    Calls Try.prog 11 #[.agg #[.int .i64 1, .int .i64 1, .slice A 1 c]] w fun e w' => ∃ A1 A2 c1 c2, e = .returned (.tuple #[.slice A1 1 c1, .slice A2 1 c2, .int .i64 0]) ∧
      Rd w' A1 1 (([0] : List Int).map (Value.int .i64)) ∧ Rd w' A2 1 (([7] : List Int).map (Value.int .i64)) ∧ Below w.heap.size w w' := by
  refine (First_any ⟨1, 1, [7]⟩ A 1 c w hr (by omega)).mono ?_
  rintro e w' ⟨p, q, er, A1, A2, c1, c2, rfl, hI, h1, h2, hb⟩
  rcases hI with ⟨h, _⟩ | ⟨_, h⟩
  · exact absurd (by decide +kernel) h
  · obtain ⟨rfl, rfl, rfl⟩ := FirstR.unique h pn_one
    exact ⟨A1, A2, c1, c2, rfl, rd_of_own h1, rd_of_own h2, hb⟩
theorem kchoi1 (A : Option Addr) (c : Nat) (w : World) (hr : Rd w A 1 (([7] : List Int).map (Value.int .i64))) :
    Calls Try.prog 13 #[.agg #[.int .i64 1, .int .i64 1, .slice A 1 c]] w fun e w' => ∃ b1 o1 b2 o2 k1 k2 E1 E2 d1 d2, e = .returned (.tuple #[.slice (some ⟨b1, o1, none⟩) 1 k1, .slice (some ⟨b2, o2, none⟩) 1 k2, .int .i64 0]) ∧
      Rd w' (some ⟨b1, o1, none⟩) 1 [.slice E1 16 d1] ∧ Rd w' (some ⟨b2, o2, none⟩) 1 [.slice E2 16 d2] ∧ Below w.heap.size w w' := by
  obtain ⟨F, hF, _⟩ := pn_fit 0 (by omega) 0 (by omega) (by omega)
  refine (Choices_fit 1 1 [7] A c w (by decide +kernel) ⟨F, hF⟩ hr (by omega)).mono ?_
  rintro e w' ⟨A1, A2, k1, k2, rfl, h1, h2, hb⟩
  obtain ⟨b1, o1, E1, d1, rfl, c1, _⟩ := h1.at_ (chLs_at (show 0 < 1 by omega))
  obtain ⟨b2, o2, E2, d2, rfl, c2, _⟩ := h2.at_ (chLs_at (show 0 < 1 by omega))
  rw [pn_len 0 (by omega) 16 (by omega)] at c1
  rw [pn_len 1 (by omega) 16 (by omega)] at c2
  refine ⟨b1, o1, b2, o2, k1, k2, E1, E2, d1, d2, rfl, ⟨rfl, fun _ => ⟨b1, o1, rfl, fun j u hj => ?_⟩⟩, ⟨rfl, fun _ => ⟨b2, o2, rfl, fun j u hj => ?_⟩⟩, hb⟩
  · match j, hj with
    | 0, hj => simp at hj; subst hj; exact c1
  · match j, hj with
    | 0, hj => simp at hj; subst hj; exact c2
theorem kfirst0 (w : World) : Calls Try.prog 11 #[.agg #[.int .i64 0, .int .i64 0, .slice none 0 0]] w fun e w' => ∃ A1 A2 c1 c2, e = .returned (.tuple #[.slice A1 0 c1, .slice A2 0 c2, .int .i64 8]) ∧ Below w.heap.size w w' := by
  refine (First_any ⟨0, 0, []⟩ none 0 0 w Rd.nil_ (by omega)).mono ?_
  rintro e w' ⟨p, q, er, A1, A2, c1, c2, rfl, hI, h1, h2, hb⟩
  rcases hI with ⟨_, rfl, rfl, rfl⟩ | ⟨h, _⟩
  · exact ⟨A1, A2, c1, c2, rfl, hb⟩
  · exact absurd h (by decide +kernel)
theorem kchoi0 (w : World) : Calls Try.prog 13 #[.agg #[.int .i64 0, .int .i64 0, .slice none 0 0]] w fun e w' => ∃ A1 A2 c1 c2, e = .returned (.tuple #[.slice A1 0 c1, .slice A2 0 c2, .int .i64 8]) ∧ Below w.heap.size w w' := by
  refine (Choices_any ⟨0, 0, []⟩ none 0 0 w Rd.nil_ (by omega)).mono ?_
  rintro e w' ⟨L0, L1, er, A1, A2, c1, c2, rfl, hI, h1, h2, hb⟩
  rcases hI with ⟨_, rfl, rfl, rfl⟩ | ⟨h, _⟩ | ⟨h, _⟩
  · exact ⟨A1, A2, c1, c2, rfl, hb⟩
  · exact absurd h (by decide +kernel)
  · exact absurd h (by decide +kernel)
theorem kchoisq (A : Option Addr) (n c : Nat) (w : World) (hr : Rd w A n (sqL.map (Value.int .i64))) : Calls Try.prog 13 #[.agg #[.int .i64 3, .int .i64 3, .slice A n c]] w fun e w' => ∃ A1 A2 c1 c2, e = .returned (.tuple #[.slice A1 0 c1, .slice A2 0 c2, .int .i64 6]) ∧ Below w.heap.size w w' := by
  have hn : n = 9 := by have := hr.len; simpa [sqL] using this.symm
  subst hn
  exact Choices_none 3 3 sqL A c w (by decide +kernel) no_square hr (by omega)

theorem kc_b (A Ap Aq : Option Addr) (n c np cp nq cq : Nat) (w : World) (hr : Rd w A n (([0, 1, 1, 1] : List Int).map (Value.int .i64))) (hp : Rd w Ap np (([0, 1] : List Int).map (Value.int .i64))) (hq : Rd w Aq nq (([0] : List Int).map (Value.int .i64))) :
    Calls Try.prog 21 #[.agg #[.int .i64 2, .int .i64 2, .slice A n c], .slice Ap np cp, .slice Aq nq cq] w (ErrC 26 w) :=
  (cells_any mI [0, 1] [0] A Ap Aq n c np cp nq cq w hr (by have := hr.len; simp at this; omega) hp hq).mono fun _ _ h => errC_of h (pn_cells (by decide +kernel) (by decide))
theorem kc_c (A Ap Aq : Option Addr) (n c np cp nq cq : Nat) (w : World) (hr : Rd w A n (([0, 1, 1, 1] : List Int).map (Value.int .i64))) (hp : Rd w Ap np (([0, 16] : List Int).map (Value.int .i64))) (hq : Rd w Aq nq (([0, 1] : List Int).map (Value.int .i64))) :
    Calls Try.prog 21 #[.agg #[.int .i64 2, .int .i64 2, .slice A n c], .slice Ap np cp, .slice Aq nq cq] w (ErrC 8 w) :=
  (cells_any mI [0, 16] [0, 1] A Ap Aq n c np cp nq cq w hr (by have := hr.len; simp at this; omega) hp hq).mono fun _ _ h => errC_of h (pn_cells (by decide +kernel) (by decide))
theorem kc_d (A Ap Aq : Option Addr) (n c np cp nq cq : Nat) (w : World) (hr : Rd w A n (([0, 1, 1, 1] : List Int).map (Value.int .i64))) (hp : Rd w Ap np (([0, 0] : List Int).map (Value.int .i64))) (hq : Rd w Aq nq (([0, 0] : List Int).map (Value.int .i64))) :
    Calls Try.prog 21 #[.agg #[.int .i64 2, .int .i64 2, .slice A n c], .slice Ap np cp, .slice Aq nq cq] w (ErrC 6 w) :=
  (cells_any mI [0, 0] [0, 0] A Ap Aq n c np cp nq cq w hr (by have := hr.len; simp at this; omega) hp hq).mono fun _ _ h => errC_of h (pn_none)
theorem kc_a (w : World) : Calls Try.prog 21 #[.agg #[.int .i64 0, .int .i64 0, .slice none 0 0], .slice none 0 0, .slice none 0 0] w (ErrC 8 w) :=
  (cells_any ⟨0, 0, []⟩ [] [] none none none 0 0 0 0 0 0 w Rd.nil_ (by omega) Rd.nil_ Rd.nil_).mono fun _ _ h => errC_of h (pn_cells (by decide +kernel) (by decide))
theorem kw_e (A Ap Aq : Option Addr) (n c np cp nq cq : Nat) (w : World) (hr : Rd w A n (([0, 1, 1, 1] : List Int).map (Value.int .i64))) (hp : Rd w Ap np (([0, 0] : List Int).map (Value.int .i64))) (hq : Rd w Aq nq (([0, 0] : List Int).map (Value.int .i64))) :
    Calls Try.prog 23 #[.agg #[.int .i64 2, .int .i64 2, .slice A n c], .slice Ap np cp, .slice Aq nq cq, .agg #[.int .i64 0, .int .i64 0, .slice none 0 0]] w (ErrG 8 w) := by
  have h := weave_any mI [0, 0] [0, 0] (Gd.zero) A Ap Aq none n c np cp nq cq 0 0 w hr (by have := hr.len; simp at this; omega) hp hq Rd.nil_
  rw [pn_like (g := Gd.zero) (t := 8) (by decide +kernel) (by decide)] at h
  exact h.mono fun _ _ h => errG_of h
theorem kw_f (A Ap Aq : Option Addr) (n c np cp nq cq : Nat) (B : Option Addr) (k d : Nat) (w : World) (hr : Rd w A n (([0, 1, 1, 1] : List Int).map (Value.int .i64))) (hp : Rd w Ap np (([0, 0] : List Int).map (Value.int .i64))) (hq : Rd w Aq nq (([0, 0] : List Int).map (Value.int .i64))) (hg : Rd w B k ((⟨2, 1, List.replicate 2 false⟩ : Gd).bits.map Value.bool)) :
    Calls Try.prog 23 #[.agg #[.int .i64 2, .int .i64 2, .slice A n c], .slice Ap np cp, .slice Aq nq cq, .agg #[.int .i64 2, .int .i64 1, .slice B k d]] w (ErrG 26 w) := by
  have h := weave_any mI [0, 0] [0, 0] (⟨2, 1, List.replicate 2 false⟩ : Gd) A Ap Aq B n c np cp nq cq k d w hr (by have := hr.len; simp at this; omega) hp hq hg
  rw [pn_like (g := ⟨2, 1, List.replicate 2 false⟩) (t := 26) (by decide +kernel) (by decide)] at h
  exact h.mono fun _ _ h => errG_of h
theorem kw_g (A Ap Aq : Option Addr) (n c np cp nq cq : Nat) (B : Option Addr) (k d : Nat) (w : World) (hr : Rd w A n (([0, 1, 1, 1] : List Int).map (Value.int .i64))) (hp : Rd w Ap np (([0, 0] : List Int).map (Value.int .i64))) (hq : Rd w Aq nq (([0, 0] : List Int).map (Value.int .i64))) (hg : Rd w B k ((⟨2, 2, List.replicate 4 false⟩ : Gd).bits.map Value.bool)) :
    Calls Try.prog 23 #[.agg #[.int .i64 2, .int .i64 2, .slice A n c], .slice Ap np cp, .slice Aq nq cq, .agg #[.int .i64 2, .int .i64 2, .slice B k d]] w (ErrG 6 w) := by
  have h := weave_any mI [0, 0] [0, 0] (⟨2, 2, List.replicate 4 false⟩ : Gd) A Ap Aq B n c np cp nq cq k d w hr (by have := hr.len; simp at this; omega) hp hq hg
  rw [pn_wnone] at h
  exact h.mono fun _ _ h => errG_of h
theorem kw_p (A Ap Aq : Option Addr) (n c np cp nq cq : Nat) (B : Option Addr) (k d : Nat) (w : World) (hr : Rd w A n (([0, 1, 1, 1] : List Int).map (Value.int .i64))) (hp : Rd w Ap np (([0, 1] : List Int).map (Value.int .i64))) (hq : Rd w Aq nq (([1, 1] : List Int).map (Value.int .i64))) (hg : Rd w B k ((⟨2, 2, [true, true, true, true]⟩ : Gd).bits.map Value.bool)) :
    Calls Try.prog 23 #[.agg #[.int .i64 2, .int .i64 2, .slice A n c], .slice Ap np cp, .slice Aq nq cq, .agg #[.int .i64 2, .int .i64 2, .slice B k d]] w (RetG (wvX, 0) w) := by
  have h := weave_any mI [0, 1] [1, 1] (⟨2, 2, [true, true, true, true]⟩ : Gd) A Ap Aq B n c np cp nq cq k d w hr (by have := hr.len; simp at this; omega) hp hq hg
  rw [pn_woven] at h
  exact h
theorem ks_h (B A Ap Aq : Option Addr) (k d n c np cp nq cq : Nat) (w : World) (hg : Rd w B k ((⟨3, 2, List.replicate 6 false⟩ : Gd).bits.map Value.bool)) (hr : Rd w A n (([0, 1, 1, 1] : List Int).map (Value.int .i64))) (hp : Rd w Ap np (([0, 1] : List Int).map (Value.int .i64))) (hq : Rd w Aq nq (([0, 1] : List Int).map (Value.int .i64))) :
    Calls Try.prog 25 #[.agg #[.int .i64 3, .int .i64 2, .slice B k d], .agg #[.int .i64 2, .int .i64 2, .slice A n c], .slice Ap np cp, .slice Aq nq cq] w fun e w' => e = .returned (.tuple #[.bool false, .int .i64 26]) ∧ Below w.heap.size w w' := by
  have h := shows_any (⟨3, 2, List.replicate 6 false⟩ : Gd) mI [0, 1] [0, 1] B A Ap Aq k d n c np cp nq cq w hg hr (by have := hr.len; simp at this; omega) hp hq
  rw [pn_show1] at h
  exact h
theorem ks_i (B A Ap Aq : Option Addr) (k d n c np cp nq cq : Nat) (w : World) (hg : Rd w B k ((⟨2, 2, List.replicate 4 false⟩ : Gd).bits.map Value.bool)) (hr : Rd w A n (([0, 1, 1, 1] : List Int).map (Value.int .i64))) (hp : Rd w Ap np (([0, 0] : List Int).map (Value.int .i64))) (hq : Rd w Aq nq (([0, 0] : List Int).map (Value.int .i64))) :
    Calls Try.prog 25 #[.agg #[.int .i64 2, .int .i64 2, .slice B k d], .agg #[.int .i64 2, .int .i64 2, .slice A n c], .slice Ap np cp, .slice Aq nq cq] w fun e w' => e = .returned (.tuple #[.bool false, .int .i64 0]) ∧ Below w.heap.size w w' := by
  have h := shows_any (⟨2, 2, List.replicate 4 false⟩ : Gd) mI [0, 0] [0, 0] B A Ap Aq k d n c np cp nq cq w hg hr (by have := hr.len; simp at this; omega) hp hq
  rw [pn_show2] at h
  exact h
theorem kz_21 (w : World) : Calls Try.prog 40 #[.int .i64 2, .int .i64 1] w (RetT ⟨2, 1, List.replicate 2 false⟩ w) := zero_any 2 1 w (by omega) (by omega)
theorem kz_22 (w : World) : Calls Try.prog 40 #[.int .i64 2, .int .i64 2] w (RetT ⟨2, 2, List.replicate 4 false⟩ w) := zero_any 2 2 w (by omega) (by omega)
theorem kz_32 (w : World) : Calls Try.prog 40 #[.int .i64 3, .int .i64 2] w (RetT ⟨3, 2, List.replicate 6 false⟩ w) := zero_any 3 2 w (by omega) (by omega)
end Go.Proofs.Ytefeghpglacghaa
