/- A grid that is stored anew: what the facts become. Nothing here names a function of the program. -/
import Derived.Test.YtefeghpglacghaaStz
import Derived.Test.YtefeghpglacghaaMg9z
namespace Go.Proofs.Ytefeghpglacghaa
open Go.RowKit

section
variable {w w1 : World} {bb : Nat} {t : TypeId}
/-- A fact that a store into a grid's block leaves as it is. -/
def Fact.okAt (bb : Nat) : Fact → Prop
  | .blk g _ _ => g ≠ bb
  | .rd _ _ xs => ∃ l : List Bool, xs = l.map Value.bool
def okAll (bb : Nat) : List Fact → Prop
  | [] => True
  | f :: L => f.okAt bb ∧ okAll bb L
theorem okAll_mem {f : Fact} : ∀ {L : List Fact}, okAll bb L → f ∈ L → f.okAt bb
  | [], _, h => by cases h
  | g :: L, h, hm => by
    rcases List.mem_cons.1 hm with rfl | hm
    · exact h.1
    · exact okAll_mem h.2 hm
theorem rd_not_blk {A : Option Addr} {n : Nat} {l : List Bool} {x y : Int} {B : Option Addr} {m c : Nat} (h : Rd w1 A n (l.map Value.bool)) (hb : Blk w1 bb t #[.int .i64 x, .int .i64 y, .slice B m c]) : ∀ b o, A = some ⟨b, o, none⟩ → 0 < n → b ≠ bb := by
  intro b o hA hn hbb
  subst hbb
  have hl : l.length = n := by simpa using h.len
  obtain ⟨b', o', hA', _, hc⟩ := h.at_ hn
  rw [hA] at hA'
  injection hA' with e
  injection e with e1 e2
  subst e1 e2
  have k := hc 0 (.bool (l.getD 0 false)) (by rw [List.getElem?_map, List.getElem?_eq_getElem (by omega)]; simp [List.getD, show 0 < l.length by omega])
  rw [Nat.add_zero, hb.cell] at k
  match o, k with
  | 0, k => simp at k
  | 1, k => simp at k
  | 2, k => simp at k
  | o + 3, k => simp at k
theorem St.put3 {L : List Fact} {x y : Int} {B : Option Addr} {m c : Nat} (h : St w L w1) (hB : w.heap.size ≤ bb) (hb : Blk w1 bb t #[.int .i64 x, .int .i64 y, .slice B m c]) (hL : okAll bb L) (x' y' : Int) (B' : Option Addr) (m' c' : Nat) :
    St w L (((w1.setCell ⟨bb, 0, none⟩ (.int .i64 x')).setCell ⟨bb, 1, none⟩ (.int .i64 y')).setCell ⟨bb, 2, none⟩ (.slice B' m' c')) := by
  refine ⟨below_set3 h.1 hB _ _ _, fun f hf => ?_⟩
  have hf1 := h.2 f hf
  have ok := okAll_mem hL hf
  cases f with
  | blk g t' cs => exact ((Blk.far hf1 (p := ⟨bb, 0, none⟩) ok _).far (p := ⟨bb, 1, none⟩) ok _).far (p := ⟨bb, 2, none⟩) ok _
  | rd A n xs =>
    obtain ⟨l, rfl⟩ := ok
    have hne := rd_not_blk hf1 hb
    exact ((Rd.far hf1 (p := ⟨bb, 0, none⟩) hne _).far (p := ⟨bb, 1, none⟩) hne _).far (p := ⟨bb, 2, none⟩) hne _
end
end Go.Proofs.Ytefeghpglacghaa
