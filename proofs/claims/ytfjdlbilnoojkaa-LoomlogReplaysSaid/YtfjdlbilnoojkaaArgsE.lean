/- A log that came in as an argument, opened. -/
import Derived.Test.YtfjdlbilnoojkaaArgs
import Derived.Test.YtfjdlbilnoojkaaLog
import Derived.Lib.SmallJoins
import Derived.Deep.RegionHeld
namespace Go.Proofs.Ytfjdlbilnoojkaa
open Go.RowKit Go.ChangeShapes Go.WideShapes Go.Joins Go.Deep

theorem Try.cellsEv : Try.prog.cellsOf 59 = 2 := by kernel_rfl
theorem trod2 {H : Type} {enc : TypeId × Value → H} {P : Program} {w : World} {base fuel : Nat} {sp : Nat → Bool} {held : Bool} {t : TypeId} {f0 f1 : Field} {cs : List Value} {x : DataW H × List MemPlace}
    (hs : P.underlying t = some (.struct #[f0, f1])) (hone : oneCellFields P #[f0, f1] = true) (hC : P.cellsOf t = 2) (h : DataW.trod enc P w base sp held fuel t cs = some x) :
    ∃ (c0 c1 : Value) (y0 y1 : DataW H × List MemPlace) (n : Nat), cs = [c0, c1] ∧ DataW.trod enc P w base sp held n f0.type [c0] = some y0 ∧ DataW.trod enc P w base sp held n f1.type [c1] = some y1 := by
  obtain ⟨y0, y1, n, _, hl, h0, h1⟩ := trod_struct2 hs h
  obtain ⟨o0, k0⟩ := hone_of hone 0 f0 rfl
  obtain ⟨o1, k1⟩ := hone_of hone 1 f1 rfl
  rw [hC] at hl
  match cs, hl with
  | [c0, c1], _ => exact ⟨c0, c1, y0, y1, n, rfl, by simpa [o0, k0] using h0, by simpa [o1, k1] using h1⟩
set_option maxRecDepth 100000 in
theorem open_ev {H : Type} {enc : TypeId × Value → H} {W : World} {base fuel : Nat} {held : Bool} {cs : List Value} {x : DataW H × List MemPlace}
    (h : DataW.trod enc Try.prog W base (fun _ => true) held fuel 59 cs = some x) :
    ∃ (e : Ev) (A : Option Addr) (c : Nat), cs[0]? = some (.int .u8 e.1) ∧ cs[1]? = some (.slice A e.2.length c) ∧ Rd W A e.2.length (e.2.map Value.bool) := by
  obtain ⟨c0, c1, y0, y1, n, rfl, h0, h1⟩ := trod2 Try.underlying59 (by kernel_rfl) Try.cellsEv h
  obtain ⟨q, e0, _, _⟩ := DataW.trod_int Try.underlying5 h0
  obtain ⟨A, n, c, bs, e1, hn, hc, hr⟩ := rd_bools Try.underlying23 Try.underlying4 Try.cellsBool h1
  simp only [List.cons.injEq, and_true] at e0
  subst e0 e1
  have hl : bs.length = n := by simpa using hr.len
  subst hl
  exact ⟨(q, bs), A, c, rfl, rfl, hr⟩
set_option maxRecDepth 100000 in
theorem open_log {H : Type} {enc : TypeId × Value → H} {W : World} {base : Nat} {v : Value} {d : DataW H} {p : List MemPlace}
    (hv : Value.okWide Try.prog W .any base 22 v) (h : DataW.Trod enc Try.prog W 0 (fun _ => true) true 22 v d p) :
    ∃ (l : List Ev) (A : Option Addr) (n c : Nat), v = .slice A n c ∧ LogR W A n l ∧ n ≤ c ∧ c ≤ maxLen := by
  obtain ⟨a0, len0, cap0, rfl⟩ := okWide_slice Try.underlying22 hv
  obtain ⟨fuel, hf⟩ := h
  rcases DataW.trod_slice Try.underlying22 hf with ⟨hcs, _⟩ | ⟨a, len, cap, elems, rest, n, _, hcs, _, hb, hl, hm, hlen, hel, _⟩
  · simp only [Value.cells, List.cons.injEq, and_true] at hcs
    exact ⟨[], none, 0, 0, by simpa using hcs, ⟨rfl, fun h => absurd h (by omega)⟩, Nat.le_refl _, Nat.zero_le _⟩
  · have hv2 : Value.slice a0 len0 cap0 = .slice (some a) len cap := by simpa [Value.cells] using hcs
    have hel2 : ∀ i, ∃ (e : Ev) (A : Option Addr) (c : Nat), i < len → W.cell? (a.add (i * 2)) = some (.int .u8 e.1) ∧ W.cell? (a.add (i * 2 + 1)) = some (.slice A e.2.length c) ∧ Rd W A e.2.length (e.2.map Value.bool) := by
      intro i
      by_cases hi : i < len
      · have h1 := hel i hi
        rw [Try.cellsEv, List.getElem?_eq_getElem (by omega)] at h1
        rw [Option.bind_eq_some_iff] at h1
        obtain ⟨cs, h2, h3⟩ := h1
        obtain ⟨_, h4, h5⟩ := World.cells?_some h2
        obtain ⟨e, A, c, k0, k1, k2⟩ := open_ev h3
        refine ⟨e, A, c, fun _ => ⟨?_, ?_, k2⟩⟩
        · rw [← k0, ← h5 0 (by omega), Addr.add_add, Nat.add_zero]
        · rw [← k1, ← h5 1 (by omega), Addr.add_add]
      · exact ⟨(0, []), none, 0, fun h => absurd h hi⟩
    obtain ⟨f, hf2⟩ := Classical.axiomOfChoice hel2
    refine ⟨(List.range len).map f, some a, len, cap, hv2, ⟨by simp, fun hn => ?_⟩, hl, hm⟩
    obtain ⟨b, o, spot⟩ := a
    obtain ⟨A0, c0, h0⟩ := hf2 0
    have h00 := (h0 hn).1
    have hs : spot = none := by simpa [Addr.add] using World.cell?_spot h00
    subst hs
    have hlt : b < W.heap.size := by
      rw [Addr.add_lit] at h00
      exact World.block_lt_of_cell? W _ h00
    refine ⟨b, o, rfl, hlt, fun i q r hi => ?_⟩
    have hil : i < len := by
      have := (List.getElem?_eq_some_iff.1 hi).1
      simpa using this
    rw [List.getElem?_map, List.getElem?_range hil] at hi
    have hfi : f i = (q, r) := by simpa using hi
    obtain ⟨A1, c1, h1⟩ := hf2 i
    obtain ⟨k0, k1, k2⟩ := h1 hil
    rw [hfi] at k0 k1 k2
    rw [Addr.add_lit] at k0 k1
    exact ⟨k0, A1, c1, by rw [Nat.add_assoc]; exact k1, k2⟩
end Go.Proofs.Ytfjdlbilnoojkaa
