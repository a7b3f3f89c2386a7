/- Parts of the proof, in their order. -/
import Derived.Test.YtefeghpglacghaaMg1z
import Derived.Test.YtefeghpglacghaaFirstFz
import Derived.Test.YtefeghpglacghaaPicPz
import Derived.Test.YtefeghpglacghaaThrz
import Derived.Test.YtefeghpglacghaaColPz
import Derived.Test.YtefeghpglacghaaAlive15z
import Derived.Test.YtefeghpglacghaaExP15z
import Derived.Test.YtefeghpglacghaaGTo15z
import Derived.Test.YtefeghpglacghaaShows15z
import Derived.Test.YtefeghpglacghaaFrontFz
import Derived.Test.YtefeghpglacghaaFits15z
/- Slices that came in as arguments, opened. -/
namespace Go.Proofs.Ytefeghpglacghaa
open Go.RowKit Go.ChangeShapes Go.WideShapes Go.Joins

set_option maxRecDepth 100000 in
theorem open_ilist {H : Type} {enc : TypeId × Value → H} {W : World} {base : Nat} {v : Value} {d : DataW H} {p : List MemPlace}
    (hv : Value.okWide Try.prog W .any base 22 v) (h : DataW.Trod enc Try.prog W 0 (fun _ => true) true 22 v d p) :
    ∃ A n c zs, v = .slice A n c ∧ n ≤ c ∧ c ≤ maxLen ∧ Rd W A n (List.map (Value.int .i64) zs) ∧ ∀ z ∈ zs, (Lit.int .i64 z).wf = true := by
  obtain ⟨a0, len, cap, rfl⟩ := okWide_slice Try.underlying22 hv
  obtain ⟨fuel, hf⟩ := h
  exact rd_ints Try.underlying22 Try.underlying3 (by kernel_rfl) hf
end Go.Proofs.Ytefeghpglacghaa
/- Fits as functions and as lists; least fits and lists in order. No program in sight. -/
namespace Go.Proofs.Ytefeghpglacghaa
open Go.RowKit

section
variable {a b : Nat} {cs p q P Q : List Int}
theorem fineL_of {l : List Int} (h : ∀ i, i < l.length → 0 ≤ l.getD i 0 ∧ l.getD i 0 ≤ 15) : fineL l = true := by
  unfold fineL
  rw [List.all_eq_true]
  intro z hz
  obtain ⟨i, hi, rfl⟩ := List.getElem_of_mem hz
  have := h i hi
  rw [List.getD_eq_getElem?_getD, List.getElem?_eq_getElem hi] at this
  exact decide_eq_true this
theorem fitF_fine (hp : p.length = a) (hq : q.length = b) (h : FitF (N2 a b) (M2 a cs) (F2 p q)) : fineL p = true ∧ fineL q = true := by
  refine ⟨fineL_of fun i hi => ?_, fineL_of fun i hi => ?_⟩
  · have := h.val 0 i (by omega) (by rw [n2_0]; omega)
    rw [f2_0 hi] at this
    exact this
  · have := h.val 1 i (by omega) (by rw [n2_1]; omega)
    rw [f2_1 hi] at this
    exact this
theorem fitF_lists (hp : p.length = a) (hq : q.length = b) (hfp : fineL p = true) (hfq : fineL q = true) : FitF (N2 a b) (M2 a cs) (F2 p q) ↔ fitB a b cs p q = true := by
  constructor
  · intro h
    refine fitB_true fun j hj => ?_
    obtain ⟨x, y, hx, hy, rfl⟩ := Pl.cell_split hj
    rw [fitC_at hx]
    have := (f2_fit hp hq).1 h.fit x y hx hy
    rw [Bool.or_eq_true, decide_eq_true_eq, decide_eq_true_eq]
    exact this
  · intro h
    refine ⟨(f2_fit hp hq).2 fun x y hx hy => ?_, fun k i hk hi => ?_⟩
    · unfold fitB at h
      rw [List.all_eq_true] at h
      have := h (y * a + x) (List.mem_range.2 (Pl.cell_lt hx hy))
      rw [fitC_at hx, Bool.or_eq_true, decide_eq_true_eq, decide_eq_true_eq] at this
      exact this
    · rcases (show k = 0 ∨ k = 1 by omega) with rfl | rfl
      · have hi' : i < a := hi
        rw [f2_0 (by omega)]
        exact fineL_get hfp (by omega)
      · have hi' : i < b := hi
        rw [f2_1 (by omega)]
        exact fineL_get hfq (by omega)
theorem app_left {x : Nat} (hp : p.length = a) (hx : x < a) : (p ++ q).getD x 0 = p.getD x 0 := by
  rw [List.getD_eq_getElem?_getD, List.getElem?_append_left (by omega), List.getD_eq_getElem?_getD]
theorem app_right {y : Nat} (hp : p.length = a) : (p ++ q).getD (a + y) 0 = q.getD y 0 := by
  rw [List.getD_eq_getElem?_getD, List.getElem?_append_right (by omega), List.getD_eq_getElem?_getD, hp, Nat.add_sub_cancel_left]
/-- The least fit before another one, as lists. -/
theorem lex_lists (hP : P.length = a) (hQ : Q.length = b) (hp : p.length = a) (hq : q.length = b) (h : LexLe (N2 a b) 2 0 (F2 P Q) (F2 p q)) :
    (∀ i, i < a + b → (P ++ Q).getD i 0 = (p ++ q).getD i 0) ∨ ∃ d, d < a + b ∧ (P ++ Q).getD d 0 < (p ++ q).getD d 0 ∧ ∀ i, i < d → (P ++ Q).getD i 0 = (p ++ q).getD i 0 := by
  rcases h with h | ⟨kd, jd, h1, h2, _, h4, h5⟩
  · refine .inl fun i hi => ?_
    by_cases hia : i < a
    · rw [app_left hP hia, app_left hp hia, ← f2_0 (q := Q) (by omega), ← f2_0 (p := p) (q := q) (by omega)]
      exact (h 0 i (by omega) hia (.inl (by omega))).symm
    · obtain ⟨y, rfl⟩ : ∃ y, i = a + y := ⟨i - a, by omega⟩
      rw [app_right hP, app_right hp, ← f2_1 (p := P) (by omega), ← f2_1 (p := p) (q := q) (by omega)]
      exact (h 1 y (by omega) (by rw [n2_1]; omega) (.inl (by omega))).symm
  · rcases (show kd = 0 ∨ kd = 1 by omega) with rfl | rfl
    · have hj : jd < a := h2
      rw [f2_0 (by omega), f2_0 (by omega)] at h4
      refine .inr ⟨jd, by omega, by rw [app_left hP hj, app_left hp hj]; exact h4, fun i hi => ?_⟩
      rw [app_left hP (by omega), app_left hp (by omega), ← f2_0 (q := Q) (by omega), ← f2_0 (p := p) (q := q) (by omega)]
      exact (h5 0 i (by omega) (by rw [n2_0]; omega) (.inr ⟨rfl, hi⟩)).symm
    · have hj : jd < b := h2
      rw [f2_1 (by omega), f2_1 (by omega)] at h4
      refine .inr ⟨a + jd, by omega, by rw [app_right hP, app_right hp]; exact h4, fun i hi => ?_⟩
      by_cases hia : i < a
      · rw [app_left hP hia, app_left hp hia, ← f2_0 (q := Q) (by omega), ← f2_0 (p := p) (q := q) (by omega)]
        exact (h5 0 i (by omega) hia (.inl (by omega))).symm
      · obtain ⟨y, rfl⟩ : ∃ y, i = a + y := ⟨i - a, by omega⟩
        rw [app_right hP, app_right hp, ← f2_1 (p := P) (by omega), ← f2_1 (p := p) (q := q) (by omega)]
        exact (h5 1 y (by omega) (by rw [n2_1]; omega) (.inr ⟨rfl, by omega⟩)).symm
/-- What a walk over both lists meets: equal numbers, or a lesser one. -/
theorem lex_step {L O : List Int} {n i : Nat} (h : (∀ i, i < n → L.getD i 0 = O.getD i 0) ∨ ∃ d, d < n ∧ L.getD d 0 < O.getD d 0 ∧ ∀ i, i < d → L.getD i 0 = O.getD i 0) (hi : i < n) (hb : ∀ j, j < i → L.getD j 0 = O.getD j 0) (hne : L.getD i 0 ≠ O.getD i 0) : L.getD i 0 < O.getD i 0 := by
  rcases h with h | ⟨d, h1, h2, h3⟩
  · exact absurd (h i hi) hne
  · rcases Nat.lt_trichotomy d i with hd | hd | hd
    · have := hb d hd
      omega
    · subst hd; exact h2
    · exact absurd (h3 i hd) hne
/-- The front of a cloth fits its own colours. -/
theorem front_fits {bs : List Bool} (hp : p.length = a) (hq : q.length = b) (hfp : fineL p = true) (hfq : fineL q = true) : FitF (N2 a b) (M2 a (Pl.tab a b (frontF a bs p q))) (F2 p q) := by
  rw [fitF_lists hp hq hfp hfq]
  refine fitB_true fun j hj => ?_
  obtain ⟨x, y, hx, hy, rfl⟩ := Pl.cell_split hj
  rw [fitC_at hx, tab_getD _ 0 hx hy]
  unfold frontF
  cases bs.getD (y * a + x) false <;> simp
end
end Go.Proofs.Ytefeghpglacghaa
/- picture.First where some colours fit, and where none do; the checks of layer 14 with their results handed in. -/
namespace Go.Proofs.Ytefeghpglacghaa
open Go.RowKit

theorem First_fit (a b : Nat) (cs : List Int) (A : Option Addr) (c : Nat) (w : World) (h0 : chkI ⟨a, b, cs⟩ = 0) (hF : ∃ F, FitF (N2 a b) (M2 a cs) F) (hr : Rd w A (b * a) (cs.map (Value.int .i64))) (hn : b * a ≤ 1048576) :
    Calls Try.prog 11 #[.agg #[.int .i64 a, .int .i64 b, .slice A (b * a) c]] w fun e w' => ∃ (P Q : List Int) (A1 A2 : Option Addr) (k1 k2 : Nat),
      e = .returned (.tuple #[.slice A1 a k1, .slice A2 b k2, .int .i64 0]) ∧ P.length = a ∧ Q.length = b ∧ FitF (N2 a b) (M2 a cs) (F2 P Q) ∧ (∀ F, FitF (N2 a b) (M2 a cs) F → LexLe (N2 a b) 2 0 (F2 P Q) F) ∧
      Rd w' A1 a (P.map (Value.int .i64)) ∧ Rd w' A2 b (Q.map (Value.int .i64)) ∧ Below w.heap.size w w' := by
  refine (First_any ⟨a, b, cs⟩ A (b * a) c w hr hn).mono ?_
  rintro e w' ⟨P, Q, er, A1, A2, k1, k2, rfl, hI, o1, o2, hb⟩
  rcases hI with ⟨hx, _⟩ | ⟨_, ⟨rfl, h1, h2, h3, h4⟩ | ⟨rfl, rfl, rfl, hno⟩⟩
  · exact absurd h0 hx
  · simp only [Int.toNat_natCast] at h1 h2 h3 h4
    rw [h1] at o1
    rw [h2] at o2
    exact ⟨P, Q, A1, A2, k1, k2, by rw [h1, h2], h1, h2, h3, h4, rd_of_own o1, rd_of_own o2, hb⟩
  · exact absurd hF hno
theorem First_none (a b : Nat) (cs : List Int) (A : Option Addr) (c : Nat) (w : World) (h0 : chkI ⟨a, b, cs⟩ = 0) (hF : ¬ ∃ F, FitF (N2 a b) (M2 a cs) F) (hr : Rd w A (b * a) (cs.map (Value.int .i64))) (hn : b * a ≤ 1048576) :
    Calls Try.prog 11 #[.agg #[.int .i64 a, .int .i64 b, .slice A (b * a) c]] w fun e w' => ∃ (A1 A2 : Option Addr) (k1 k2 : Nat),
      e = .returned (.tuple #[.slice A1 0 k1, .slice A2 0 k2, .int .i64 6]) ∧ Below w.heap.size w w' := by
  refine (First_any ⟨a, b, cs⟩ A (b * a) c w hr hn).mono ?_
  rintro e w' ⟨P, Q, er, A1, A2, k1, k2, rfl, hI, o1, o2, hb⟩
  rcases hI with ⟨hx, _⟩ | ⟨_, ⟨rfl, h1, h2, h3, h4⟩ | ⟨rfl, rfl, rfl, hno⟩⟩
  · exact absurd h0 hx
  · exact absurd ⟨_, h3⟩ hF
  · exact ⟨A1, A2, k1, k2, rfl, hb⟩
theorem rthr14_to {v : Int} (g : Gd) (p q : List Int) (h : thr g p q = v) (A Ap Aq : Option Addr) (n c np cp nq cq : Nat) (w : World) (hn : g.bits.length = n) (hrp : Rd w Ap np (p.map (Value.int .i64))) (hrq : Rd w Aq nq (q.map (Value.int .i64))) :
    Calls Try.prog 30 #[.agg #[.int .i64 g.w, .int .i64 g.h, .slice A n c], .slice Ap np cp, .slice Aq nq cq] w fun e w' => e = .returned (.int .i64 v) ∧ Below w.heap.size w w' := h ▸ rthr_any g p q A Ap Aq n c np cp nq cq w hn hrp hrq
end Go.Proofs.Ytefeghpglacghaa
/- The law PictureOwn, walked: it answers true and turns nothing that was there. -/
namespace Go.Proofs.Ytefeghpglacghaa
open Go.RowKit

theorem int_at {w : World} {A : Option Addr} {n i : Nat} {l : List Int} (h : Rd w A n (l.map (Value.int .i64))) (hi : i < n) : ∃ b o, A = some ⟨b, o, none⟩ ∧ w.cell? ⟨b, o + i, none⟩ = some (.int .i64 (l.getD i 0)) := by
  have hl : l.length = n := by simpa using h.len
  obtain ⟨b, o, hA, _, hc⟩ := h.at_ (by omega)
  exact ⟨b, o, hA, hc i _ (by rw [List.getElem?_map, List.getElem?_eq_getElem (by omega)]; simp [List.getD, show i < l.length by omega])⟩

set_option linter.unusedVariables false in
set_option linter.unusedSimpArgs false in
set_option maxHeartbeats 40000000 in
set_option maxRecDepth 100000 in
theorem pown_0 (g : Gd) (p q : List Int) (B Ap Aq : Option Addr) (k d np cp nq cq : Nat) (w : World) (hg : Rd w B k (g.bits.map Value.bool)) (hrp : Rd w Ap np (p.map (Value.int .i64))) (hrq : Rd w Aq nq (q.map (Value.int .i64))) (h1 : 4200 < k) :
    Calls Try.prog 7 #[.agg #[.int .i64 g.w, .int .i64 g.h, .slice B k d], .slice Ap np cp, .slice Aq nq cq] w fun e w' => e = .returned (.bool true) ∧ Below w.heap.size w w' := by
  have HA := Lib.hid (fun A c W => ggreat_to g.w g.h k (decide_eq_true h1) A c W)
  have HL := Lib.hid (fun W => alive15_any W)
  have S0 := ((((St.start w).addRd hg).addRd hrp).addRd hrq).box #[.int .i64 g.w, .int .i64 g.h, .slice B k d] 40
  simp only [size_alloc1, List.nil_append, List.cons_append] at S0
  clear hg hrp hrq
  go_enter Try.func7, Try.ntmps7
  go_wp2_with fail
  refine (HL.out _).mono ?_
  rintro e w1 ⟨rfl, hb1⟩
  have S1 := S0.keep hb1
  obtain ⟨ca0, ca1, ca2⟩ := (S1.blk 3 rfl).cell3
  go_wp2_with fail
  refine (HA.out _ _ _).mono ?_
  rintro e w2 ⟨rfl, hb2⟩
  have S2 := S1.keep hb2
  clear ca0 ca1 ca2 S1
  obtain ⟨ca0, ca1, ca2⟩ := (S2.blk 3 rfl).cell3
  go_wp2_with fail
  go_ret
  exact ⟨rfl, S2.below⟩

set_option linter.unusedVariables false in
set_option linter.unusedSimpArgs false in
set_option maxHeartbeats 40000000 in
set_option maxRecDepth 100000 in
theorem pown_1 (g : Gd) (p q : List Int) (B Ap Aq : Option Addr) (k d np cp nq cq : Nat) (w : World) (hg : Rd w B k (g.bits.map Value.bool)) (hrp : Rd w Ap np (p.map (Value.int .i64))) (hrq : Rd w Aq nq (q.map (Value.int .i64))) (h1 : ¬ 4200 < k) (h2 : thr g p q ≠ 0) :
    Calls Try.prog 7 #[.agg #[.int .i64 g.w, .int .i64 g.h, .slice B k d], .slice Ap np cp, .slice Aq nq cq] w fun e w' => e = .returned (.bool true) ∧ Below w.heap.size w w' := by
  have HA := Lib.hid (fun A c W => ggreat_to g.w g.h k (decide_eq_false h1) A c W)
  have HL := Lib.hid (fun W => alive15_any W)
  have hkl : g.bits.length = k := by simpa using hg.len
  have h2b : (thr g p q != 0) = true := by simpa using h2
  have HT := Lib.hid (fun A c W hrp hrq => rthr14_to g p q rfl A Ap Aq k c np cp nq cq W hkl hrp hrq)
  generalize thr g p q = t at *
  clear hkl h2
  have S0 := ((((St.start w).addRd hg).addRd hrp).addRd hrq).box #[.int .i64 g.w, .int .i64 g.h, .slice B k d] 40
  simp only [size_alloc1, List.nil_append, List.cons_append] at S0
  clear hg hrp hrq
  go_enter Try.func7, Try.ntmps7
  go_wp2_with fail
  refine (HL.out _).mono ?_
  rintro e w1 ⟨rfl, hb1⟩
  have S1 := S0.keep hb1
  obtain ⟨ca0, ca1, ca2⟩ := (S1.blk 3 rfl).cell3
  go_wp2_with fail
  refine (HA.out _ _ _).mono ?_
  rintro e w2 ⟨rfl, hb2⟩
  have S2 := S1.keep hb2
  clear ca0 ca1 ca2 S1
  obtain ⟨ca0, ca1, ca2⟩ := (S2.blk 3 rfl).cell3
  go_wp2_with fail
  refine (HT.out _ _ _ (S2.rd 1 rfl) (S2.rd 2 rfl)).mono ?_
  rintro e w3 ⟨rfl, hb3⟩
  have S3 := S2.keep hb3
  clear ca0 ca1 ca2 S2
  obtain ⟨ca0, ca1, ca2⟩ := (S3.blk 3 rfl).cell3
  go_wp2_with fail
  go_ret
  exact ⟨rfl, S3.below⟩

set_option linter.unusedVariables false in
set_option linter.unusedSimpArgs false in
set_option maxHeartbeats 40000000 in
set_option maxRecDepth 100000 in
theorem pown_2 (a b : Nat) (p q : List Int) (bs : List Bool) (B Ap Aq : Option Addr) (k d np cp nq cq : Nat) (w : World) (hg : Rd w B k (bs.map Value.bool)) (hrp : Rd w Ap np (p.map (Value.int .i64))) (hrq : Rd w Aq nq (q.map (Value.int .i64))) (ha1 : 1 ≤ a) (ha : a ≤ 64) (hb1 : 1 ≤ b) (hb : b ≤ 64) (hbl : bs.length = b * a) (hp : p.length = a) (hq : q.length = b) (hfp : fineL p = true) (hfq : fineL q = true) :
    Calls Try.prog 7 #[.agg #[.int .i64 a, .int .i64 b, .slice B k d], .slice Ap np cp, .slice Aq nq cq] w fun e w' => e = .returned (.bool true) ∧ Below w.heap.size w w' := by
  have hba : b * a ≤ 64 * 64 := Nat.mul_le_mul hb ha
  have hkl : bs.length = k := by simpa using hg.len
  have hpl : p.length = np := by simpa using hrp.len
  have hql : q.length = nq := by simpa using hrq.len
  obtain rfl : k = b * a := by omega
  obtain rfl : np = a := by omega
  obtain rfl : nq = b := by omega
  clear hkl hpl hql
  have hth : thr ⟨np, nq, bs⟩ p q = 0 := thr_mk ha1 ha hb1 hb hbl hp hq hfp hfq
  have hcsl : (Pl.tab np nq (frontF np bs p q)).length = nq * np := Pl.tab_length
  have h0 : chkI ⟨np, nq, Pl.tab np nq (frontF np bs p q)⟩ = 0 := chkI_tab ha1 ha hb1 hb fun x y hx hy => frontF_fine hfp hfq hp hq hx hy
  have hff := front_fits (bs := bs) hp hq hfp hfq
  have htI : thrI ⟨np, nq, Pl.tab np nq (frontF np bs p q)⟩ p q = 0 := thrI_ok h0 (by simp only; omega) (by simp only; omega) hfp hfq
  have HL := Lib.hid (fun W => alive15_any W)
  have HA := Lib.hid (fun A c W => ggreat_to (np : Int) (nq : Int) (nq * np) (decide_eq_false (by omega)) A c W)
  have HT := Lib.hid (fun A c W hrp hrq => rthr14_to ⟨np, nq, bs⟩ p q hth A Ap Aq (nq * np) c np cp nq cq W hbl hrp hrq)
  have HF := Lib.hid (fun A c W h hrp hrq => front_any ⟨np, nq, bs⟩ p q A Ap Aq (nq * np) c np cp nq cq W h hrp hrq)
  rw [frontI_mk hth] at HF
  have HS := Lib.hid (fun B A d c W hg hr hrp hrq => shows_any ⟨np, nq, bs⟩ ⟨np, nq, Pl.tab np nq (frontF np bs p q)⟩ p q B A Ap Aq (nq * np) d (nq * np) c np cp nq cq W hg hr (by omega) hrp hrq)
  rw [shows_mk htI hbl ha1 ha hb1 hb, decide_eq_true (rfl : Pl.tab np nq (frontF np bs p q) = Pl.tab np nq (frontF np bs p q))] at HS
  have HCS := Lib.hid hcsl
  generalize Pl.tab np nq (frontF np bs p q) = cs at *
  have HK := Lib.hid (fun A c W h => rcheckI_to ⟨np, nq, cs⟩ A (nq * np) c W h0 h (by omega))
  have H1 := Lib.hid (fun A c W h => First_fit np nq cs A c W h0 ⟨_, hff⟩ h (by omega))
  have HTR := Lib.hid (fun (P Q : List Int) (hP : P.length = np) (hQ : Q.length = nq) (hfP : fineL P = true) (hfQ : fineL Q = true) A A1 A2 c k1 k2 W h h1 h2 => thr15_to ⟨np, nq, cs⟩ P Q (thrI_ok h0 (by simp only; omega) (by simp only; omega) hfP hfQ) A A1 A2 (nq * np) c np k1 nq k2 W h (by omega) h1 h2)
  have HFT := Lib.hid (fun (P Q : List Int) A A1 A2 c k1 k2 W h h1 h2 => fits_any np nq cs P Q A A1 A2 c k1 k2 W ha1 ha hb1 hb h h1 h2)
  simp only at HT HF HS HK HTR
  obtain ⟨i0, hi, hz0, hz1, hz2⟩ := info_parts Try.infoI
  have HLQ := Lib.hid (fun (P Q : List Int) (hP : P.length = np) (hQ : Q.length = nq) (hl : ∀ F, FitF (N2 np nq) (M2 np cs) F → LexLe (N2 np nq) 2 0 (F2 P Q) F) => lex_lists hP hQ hp hq (hl _ hff))
  have HP := Lib.hid hp
  have HQ := Lib.hid hq
  clear hth hcsl htI hff h0 hfp hfq hbl hp hq
  have S0 := ((((St.start w).addRd hg).addRd hrp).addRd hrq).box #[.int .i64 np, .int .i64 nq, .slice B (nq * np) d] 40
  simp only [size_alloc1, List.nil_append, List.cons_append] at S0
  clear hg hrp hrq
  go_enter Try.func7, Try.ntmps7
  go_wp2_with fail
  refine (HL.out _).mono ?_
  rintro e w1 ⟨rfl, hb1⟩
  have S1 := S0.keep hb1
  obtain ⟨ca0, ca1, ca2⟩ := (S1.blk 3 rfl).cell3
  go_wp2_with fail
  refine (HA.out _ _ _).mono ?_
  rintro e w2 ⟨rfl, hb2⟩
  have S2 := S1.keep hb2
  clear ca0 ca1 ca2 S1
  obtain ⟨ca0, ca1, ca2⟩ := (S2.blk 3 rfl).cell3
  go_wp2_with fail
  refine (HT.out _ _ _ (S2.rd 1 rfl) (S2.rd 2 rfl)).mono ?_
  rintro e w3 ⟨rfl, hb3⟩
  have S3 := S2.keep hb3
  clear ca0 ca1 ca2 S2
  obtain ⟨ca0, ca1, ca2⟩ := (S3.blk 3 rfl).cell3
  go_wp2_with fail
  refine (HF.out _ _ _ (S3.rd 0 rfl) (S3.rd 1 rfl) (S3.rd 2 rfl)).mono ?_
  rintro e w4 ⟨A4, n4, cc4, rfl, hown4, hb4⟩
  try simp only at hown4 ⊢
  obtain rfl : n4 = nq * np := by have h8 := hown4.1; rw [List.length_map, HCS.out] at h8; omega
  have S4 := ((S3.keep hb4).addRd (rd_of_own hown4)).box #[.int .i64 np, .int .i64 nq, .slice A4 (nq * np) cc4] 24
  simp only [List.nil_append, List.cons_append] at S4
  clear ca0 ca1 ca2 S3 hown4
  obtain ⟨ca0, ca1, ca2⟩ := (S4.blk 5 rfl).cell3
  go_wp2_with fail
  refine (HK.out _ _ _ (S4.rd 4 rfl)).mono ?_
  rintro e w5 ⟨rfl, hb5⟩
  have S5 := S4.keep hb5
  clear ca0 ca1 ca2 S4
  obtain ⟨ca0, ca1, ca2⟩ := (S5.blk 3 rfl).cell3
  obtain ⟨cb0, cb1, cb2⟩ := (S5.blk 5 rfl).cell3
  go_wp2_with fail
  refine (HS.out _ _ _ _ _ (S5.rd 0 rfl) (S5.rd 4 rfl) (S5.rd 1 rfl) (S5.rd 2 rfl)).mono ?_
  rintro e w6 ⟨rfl, hb6⟩
  have S6 := S5.keep hb6
  clear ca0 ca1 ca2 cb0 cb1 cb2 S5
  obtain ⟨ca0, ca1, ca2⟩ := (S6.blk 5 rfl).cell3
  go_wp2_with fail
  refine (H1.out _ _ _ (S6.rd 4 rfl)).mono ?_
  rintro e w7 ⟨P, Q, A1, A2, k1, k2, rfl, hP, hQ, hFF, hLL, r1, r2, hb7⟩
  have S7 := ((S6.keep hb7).addRd r1).addRd r2
  simp only [List.nil_append, List.cons_append] at S7
  clear ca0 ca1 ca2 S6 r1 r2
  obtain ⟨hfP, hfQ⟩ := fitF_fine hP hQ hFF
  have hfit := (fitF_lists hP hQ hfP hfQ).1 hFF
  have HT2 := Lib.hid (HTR.out P Q hP hQ hfP hfQ)
  have HF2 := Lib.hid (HFT.out P Q)
  rw [hfit] at HF2
  have HLX := Lib.hid (HLQ.out P Q hP hQ hLL)
  have HP2 := Lib.hid hP
  have HQ2 := Lib.hid hQ
  clear hFF hLL hfP hfQ hfit HTR HFT HLQ hP hQ
  obtain ⟨ca0, ca1, ca2⟩ := (S7.blk 5 rfl).cell3
  go_wp2_with fail
  refine (HT2.out _ _ _ _ _ _ _ (S7.rd 4 rfl) (S7.rd 6 rfl) (S7.rd 7 rfl)).mono ?_
  rintro e w8 ⟨rfl, hb8⟩
  have S8 := S7.keep hb8
  clear ca0 ca1 ca2 S7
  obtain ⟨ca0, ca1, ca2⟩ := (S8.blk 5 rfl).cell3
  go_wp2_with fail
  refine (HF2.out _ _ _ _ _ _ _ (S8.rd 4 rfl) (S8.rd 6 rfl) (S8.rd 7 rfl)).mono ?_
  rintro e w9 ⟨rfl, hb9⟩
  have S9 := S8.keep hb9
  clear ca0 ca1 ca2 S8
  have hb0 : Below w9.heap.size w9 (w9.alloc (.cells #[] 3)) := (Below.refl _ _).alloc (Nat.le_refl _) _
  go_wp2_with (at_builtin; go_loud (refine wpList_app_all _ rfl (.tmp 99) (.tmp 100) 22 rfl w9.heap.size 3 i0 (.int .i64 0) 8 Try.underlying22 hi hz0 hz1 hz2 rfl (by decide) (.slice (some ⟨w9.heap.size, 0, none⟩) 0 0) 0 [] rfl (World.ownsRow_lit w9 #[] 0 (by omega) (Nat.zero_le _) rfl) A1 np k1 _ rfl ((S9.keep hb0).rd 6 rfl) (oneCell_ints P) (by omega) (by simp) ?_))
  intro Al cl wA hoA hgA
  have hBA : Below w9.heap.size w9 wA := hb0.grown hgA (by simp) (fun k hk => by simp [Value.ownBlock] at hk; omega)
  clear hgA hb0
  go_wp2_with (at_builtin; go_loud (refine wpList_app_all _ rfl (.tmp 101) (.tmp 102) 22 rfl w9.heap.size 3 i0 (.int .i64 0) 8 Try.underlying22 hi hz0 hz1 hz2 rfl (by decide) (.slice Al np cl) np _ rfl (hoA) A2 nq k2 _ rfl ((S9.keep hBA).rd 7 rfl) (oneCell_ints Q) (by omega) (hBA.size) ?_))
  intro Am cm wB hoB hgB
  have hBB : Below w9.heap.size w9 wB := hBA.grown hgB hBA.size (fun k hk => (hoA.lt k hk).1)
  clear hgB hoA hBA
  have hb0 : Below wB.heap.size wB (wB.alloc (.cells #[] 3)) := (Below.refl _ _).alloc (Nat.le_refl _) _
  have hBBz := hBB.size
  go_wp2_with (at_builtin; go_loud (refine wpList_app_all _ rfl (.tmp 104) (.tmp 105) 22 rfl wB.heap.size 3 i0 (.int .i64 0) 8 Try.underlying22 hi hz0 hz1 hz2 rfl (by decide) (.slice (some ⟨wB.heap.size, 0, none⟩) 0 0) 0 [] rfl (World.ownsRow_lit wB #[] 0 (by omega) (Nat.zero_le _) rfl) Ap np cp _ rfl (((S9.keep hBB).keep hb0).rd 1 rfl) (oneCell_ints p) (by omega) (by simp) ?_))
  intro An cn wC hoC hgC
  have hBC : Below wB.heap.size wB wC := hb0.grown hgC (by simp) (fun k hk => by simp [Value.ownBlock] at hk; omega)
  clear hgC hb0
  go_wp2_with (at_builtin; go_loud (refine wpList_app_all _ rfl (.tmp 106) (.tmp 107) 22 rfl wB.heap.size 3 i0 (.int .i64 0) 8 Try.underlying22 hi hz0 hz1 hz2 rfl (by decide) (.slice An np cn) np _ rfl (hoC) Aq nq cq _ rfl (((S9.keep hBB).keep hBC).rd 2 rfl) (oneCell_ints q) (by omega) (hBC.size) ?_))
  intro Ao co wD hoD hgD
  have hBD : Below wB.heap.size wB wD := hBC.grown hgD hBC.size (fun k hk => (hoC.lt k hk).1)
  have SD := ((S9.keep hBB).keep hBD)
  have hR1 := rd_of_own (own_below hoB hBD)
  have hR2 := rd_of_own hoD
  rw [← List.map_append] at hR1 hR2
  have SE : St w [.rd Am (np + nq) ((P ++ Q).map (Value.int .i64)), .rd Ao (np + nq) ((p ++ q).map (Value.int .i64))] wD := ((show St w [] _ from ⟨SD.1, by simp⟩).addRd hR1).addRd hR2
  have hLl : (P ++ Q).length = np + nq := by rw [List.length_append, HP2.out, HQ2.out]
  have hOl : (p ++ q).length = np + nq := by rw [List.length_append, HP.out, HQ.out]
  generalize P ++ Q = L at *
  generalize p ++ q = O at *
  clear hgD hoC hBC hoD hoB hBB hBBz hBD SD S9 hR1 hR2
  go_wp2_with fail
  go_loopw [17] (fun iv wr => ∃ i : Nat, i ≤ np + nq ∧ iv = .int .i64 i ∧ (∀ j, j < i → L.getD j 0 = O.getD j 0) ∧ St w [.rd Am (np + nq) (L.map (Value.int .i64)), .rd Ao (np + nq) (O.map (Value.int .i64))] wr) (fun iv _ => np + nq - (intOf iv).toNat)
  case atStart => exact ⟨0, Nat.zero_le _, rfl, fun j h => by omega, SE⟩
  case round =>
    clear SE
    obtain ⟨i, hi9, rfl, heq, SE⟩ := hrel
    by_cases hlt : i < np + nq
    · obtain ⟨bl, ol, hAm, x0⟩ := int_at (SE.rd 0 rfl) hlt
      obtain ⟨bo, oo, hAo, y0⟩ := int_at (SE.rd 1 rfl) hlt
      have hstep := lex_step HLX.out hlt heq
      have heq2 : L.getD i 0 = O.getD i 0 → ∀ j, j < i + 1 → L.getD j 0 = O.getD j 0 := fun h j hj => by
        by_cases e : j = i
        · subst e; exact h
        · exact heq j (by omega)
      have HE := Lib.hid heq2
      clear heq heq2
      generalize hx : L.getD i 0 = x at *
      generalize hy : O.getD i 0 = y at *
      by_cases hxy : x = y
      · have e1 : (x != y) = false := by simpa using hxy
        have HE2 := Lib.hid (HE.out hxy)
        clear HE hstep hxy hx hy
        go_wp2_with fail
        go_quiet (fail)
        go_wp2_with fail
        go_roundw
        case rel => exact ⟨i + 1, by omega, by go_num, HE2.out, SE.drewN _⟩
        case measure => simp [intOf]; omega
      · have e1 : (x != y) = true := by simpa using hxy
        have e2 : decide (x < y) = true := decide_eq_true (hstep hxy)
        have HS2 := Lib.hid (hstep hxy)
        clear HE hstep hxy hx hy
        go_wp2_with fail
        go_quiet (fail)
        go_wp2_with fail
        go_quiet (fail)
        go_wp2_with fail
        go_ret
        exact ⟨rfl, ((SE.drewN _).drewN _).below⟩
    · go_wp2_with fail
      go_ret
      exact ⟨rfl, SE.below⟩

theorem pown_walk (g : Gd) (p q : List Int) (B Ap Aq : Option Addr) (k d np cp nq cq : Nat) (w : World) (hg : Rd w B k (g.bits.map Value.bool)) (hrp : Rd w Ap np (p.map (Value.int .i64))) (hrq : Rd w Aq nq (q.map (Value.int .i64))) :
    Calls Try.prog 7 #[.agg #[.int .i64 g.w, .int .i64 g.h, .slice B k d], .slice Ap np cp, .slice Aq nq cq] w fun e w' => e = .returned (.bool true) ∧ Below w.heap.size w w' := by
  by_cases h1 : 4200 < k
  · exact pown_0 g p q B Ap Aq k d np cp nq cq w hg hrp hrq h1
  by_cases h2 : thr g p q = 0
  · obtain ⟨a, b, bs, rfl, ha1, ha, hb1, hb, hbl, hp, hq, hfp, hfq⟩ := thr_open h2
    exact pown_2 a b p q bs B Ap Aq k d np cp nq cq w hg hrp hrq ha1 ha hb1 hb hbl hp hq hfp hfq
  · exact pown_1 g p q B Ap Aq k d np cp nq cq w hg hrp hrq h1 h2
end Go.Proofs.Ytefeghpglacghaa
