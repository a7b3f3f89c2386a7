/- The law PictureNames, walked: it answers true and turns nothing that was there. -/
import Derived.Test.YtefeghpglacghaaNames15Kz
import Derived.Test.YtefeghpglacghaaPutz
import Derived.Test.YtefeghpglacghaaInvRz
import Derived.Deep.DeepCutAuto
namespace Go.Proofs.Ytefeghpglacghaa
open Go.RowKit

theorem St.world {w w1 : World} {L : List Fact} (_ : St w L w1) : ∃ x, x = w1 := ⟨w1, rfl⟩
set_option linter.unusedVariables false in
def IN8 (w w2 wR : World) : List Bool → List Value → World → Prop
  | [l0, l1, l2, l3, l4, l5, l6, l7, l8, l9, l10], [x0, x1, x2, x3, x4, x5, x6, x7, x8, x9, x10], u => (St wR [.blk w.heap.size 3 #[.int .i64 0, .int .i64 1, .int .i64 1, .int .i64 1], .blk w2.heap.size 24 #[.int .i64 2, .int .i64 2, .slice (some ⟨w.heap.size, 0, none⟩) 4 4], .blk (w2.heap.size + 1) 3 #[.int .i64 0, .int .i64 1]] u) ∧ (l0 = true → x0 = .agg #[.int .i64 2, .int .i64 2, .slice (some ⟨w.heap.size, 0, none⟩) 4 4]) ∧ (l1 = true → l4 = false → ∃ b : Nat, x1 = .slice (some ⟨b, 0, none⟩) 2 2 ∧ Rd u (some ⟨b, 0, none⟩) 2 (([0, 0] : List Int).map (Value.int .i64))) ∧ (l2 = true → l4 = false → ∃ b : Nat, x2 = .slice (some ⟨b, 0, none⟩) 2 2 ∧ Rd u (some ⟨b, 0, none⟩) 2 (([0, 0] : List Int).map (Value.int .i64))) ∧ (l3 = true → l4 = false → ∃ (B : Option Addr) (m k : Nat), x3 = .agg #[.int .i64 2, .int .i64 1, .slice B m k] ∧ Rd u B m ((List.replicate 2 false).map Value.bool)) ∧ (l4 = true → ∃ (P : Option Addr) (n c : Nat), x4 = .tuple #[.agg #[.int .i64 0, .int .i64 0, .slice P n c], .int .i64 26]) ∧ (l5 = true → ∃ (P : Option Addr) (n c : Nat), x5 = .tuple #[.agg #[.int .i64 0, .int .i64 0, .slice P n c], .int .i64 26]) ∧ (l6 = true → ∃ (P : Option Addr) (n c : Nat), x6 = .agg #[.int .i64 0, .int .i64 0, .slice P n c]) ∧ (l7 = true → x7 = .int .i64 26) ∧ (l8 = true → ∃ b : Nat, x8 = .pointer (some ⟨b, 0, none⟩) ∧ (l9 = false → wR.heap.size ≤ b ∧ Blk u b 40 #[.int .i64 0, .int .i64 0, .slice none 0 0])) ∧ True ∧ (l10 = true → x10 = .int .i64 26)
  | _, _, _ => False
theorem IN8_get (w w2 wR : World) {l0 l1 l2 l3 l4 l5 l6 l7 l8 l9 l10 : Bool} {x0 x1 x2 x3 x4 x5 x6 x7 x8 x9 x10 : Value} {u : World} (h : IN8 w w2 wR [l0, l1, l2, l3, l4, l5, l6, l7, l8, l9, l10] [x0, x1, x2, x3, x4, x5, x6, x7, x8, x9, x10] u) : (St wR [.blk w.heap.size 3 #[.int .i64 0, .int .i64 1, .int .i64 1, .int .i64 1], .blk w2.heap.size 24 #[.int .i64 2, .int .i64 2, .slice (some ⟨w.heap.size, 0, none⟩) 4 4], .blk (w2.heap.size + 1) 3 #[.int .i64 0, .int .i64 1]] u) ∧ (l0 = true → x0 = .agg #[.int .i64 2, .int .i64 2, .slice (some ⟨w.heap.size, 0, none⟩) 4 4]) ∧ (l1 = true → l4 = false → ∃ b : Nat, x1 = .slice (some ⟨b, 0, none⟩) 2 2 ∧ Rd u (some ⟨b, 0, none⟩) 2 (([0, 0] : List Int).map (Value.int .i64))) ∧ (l2 = true → l4 = false → ∃ b : Nat, x2 = .slice (some ⟨b, 0, none⟩) 2 2 ∧ Rd u (some ⟨b, 0, none⟩) 2 (([0, 0] : List Int).map (Value.int .i64))) ∧ (l3 = true → l4 = false → ∃ (B : Option Addr) (m k : Nat), x3 = .agg #[.int .i64 2, .int .i64 1, .slice B m k] ∧ Rd u B m ((List.replicate 2 false).map Value.bool)) ∧ (l4 = true → ∃ (P : Option Addr) (n c : Nat), x4 = .tuple #[.agg #[.int .i64 0, .int .i64 0, .slice P n c], .int .i64 26]) ∧ (l5 = true → ∃ (P : Option Addr) (n c : Nat), x5 = .tuple #[.agg #[.int .i64 0, .int .i64 0, .slice P n c], .int .i64 26]) ∧ (l6 = true → ∃ (P : Option Addr) (n c : Nat), x6 = .agg #[.int .i64 0, .int .i64 0, .slice P n c]) ∧ (l7 = true → x7 = .int .i64 26) ∧ (l8 = true → ∃ b : Nat, x8 = .pointer (some ⟨b, 0, none⟩) ∧ (l9 = false → wR.heap.size ≤ b ∧ Blk u b 40 #[.int .i64 0, .int .i64 0, .slice none 0 0])) ∧ True ∧ (l10 = true → x10 = .int .i64 26) := h
theorem IN8_mk (w w2 wR : World) {l0 l1 l2 l3 l4 l5 l6 l7 l8 l9 l10 : Bool} {x0 x1 x2 x3 x4 x5 x6 x7 x8 x9 x10 : Value} {u : World} (h : (St wR [.blk w.heap.size 3 #[.int .i64 0, .int .i64 1, .int .i64 1, .int .i64 1], .blk w2.heap.size 24 #[.int .i64 2, .int .i64 2, .slice (some ⟨w.heap.size, 0, none⟩) 4 4], .blk (w2.heap.size + 1) 3 #[.int .i64 0, .int .i64 1]] u) ∧ (l0 = true → x0 = .agg #[.int .i64 2, .int .i64 2, .slice (some ⟨w.heap.size, 0, none⟩) 4 4]) ∧ (l1 = true → l4 = false → ∃ b : Nat, x1 = .slice (some ⟨b, 0, none⟩) 2 2 ∧ Rd u (some ⟨b, 0, none⟩) 2 (([0, 0] : List Int).map (Value.int .i64))) ∧ (l2 = true → l4 = false → ∃ b : Nat, x2 = .slice (some ⟨b, 0, none⟩) 2 2 ∧ Rd u (some ⟨b, 0, none⟩) 2 (([0, 0] : List Int).map (Value.int .i64))) ∧ (l3 = true → l4 = false → ∃ (B : Option Addr) (m k : Nat), x3 = .agg #[.int .i64 2, .int .i64 1, .slice B m k] ∧ Rd u B m ((List.replicate 2 false).map Value.bool)) ∧ (l4 = true → ∃ (P : Option Addr) (n c : Nat), x4 = .tuple #[.agg #[.int .i64 0, .int .i64 0, .slice P n c], .int .i64 26]) ∧ (l5 = true → ∃ (P : Option Addr) (n c : Nat), x5 = .tuple #[.agg #[.int .i64 0, .int .i64 0, .slice P n c], .int .i64 26]) ∧ (l6 = true → ∃ (P : Option Addr) (n c : Nat), x6 = .agg #[.int .i64 0, .int .i64 0, .slice P n c]) ∧ (l7 = true → x7 = .int .i64 26) ∧ (l8 = true → ∃ b : Nat, x8 = .pointer (some ⟨b, 0, none⟩) ∧ (l9 = false → wR.heap.size ≤ b ∧ Blk u b 40 #[.int .i64 0, .int .i64 0, .slice none 0 0])) ∧ True ∧ (l10 = true → x10 = .int .i64 26)) : IN8 w w2 wR [l0, l1, l2, l3, l4, l5, l6, l7, l8, l9, l10] [x0, x1, x2, x3, x4, x5, x6, x7, x8, x9, x10] u := h
theorem IN8_b : ∀ l : List Bool, l.length = 11 → ∃ a0 a1 a2 a3 a4 a5 a6 a7 a8 a9 a10, l = [a0, a1, a2, a3, a4, a5, a6, a7, a8, a9, a10]
  | [a0, a1, a2, a3, a4, a5, a6, a7, a8, a9, a10], _ => ⟨a0, a1, a2, a3, a4, a5, a6, a7, a8, a9, a10, rfl⟩
theorem IN8_v : ∀ l : List Value, l.length = 11 → ∃ a0 a1 a2 a3 a4 a5 a6 a7 a8 a9 a10, l = [a0, a1, a2, a3, a4, a5, a6, a7, a8, a9, a10]
  | [a0, a1, a2, a3, a4, a5, a6, a7, a8, a9, a10], _ => ⟨a0, a1, a2, a3, a4, a5, a6, a7, a8, a9, a10, rfl⟩

set_option linter.unusedVariables false in
def IN9 (w w2 wR : World) : List Bool → List Value → World → Prop
  | [l0, l1, l2, l3, l4, l5, l6, l7, l8, l9, l10], [x0, x1, x2, x3, x4, x5, x6, x7, x8, x9, x10], u => (St wR [.blk w.heap.size 3 #[.int .i64 0, .int .i64 1, .int .i64 1, .int .i64 1], .blk w2.heap.size 24 #[.int .i64 2, .int .i64 2, .slice (some ⟨w.heap.size, 0, none⟩) 4 4], .blk (w2.heap.size + 1) 3 #[.int .i64 0, .int .i64 1]] u) ∧ (l0 = true → x0 = .agg #[.int .i64 2, .int .i64 2, .slice (some ⟨w.heap.size, 0, none⟩) 4 4]) ∧ (l1 = true → l4 = false → ∃ b : Nat, x1 = .slice (some ⟨b, 0, none⟩) 2 2 ∧ Rd u (some ⟨b, 0, none⟩) 2 (([0, 0] : List Int).map (Value.int .i64))) ∧ (l2 = true → l4 = false → ∃ b : Nat, x2 = .slice (some ⟨b, 0, none⟩) 2 2 ∧ Rd u (some ⟨b, 0, none⟩) 2 (([0, 0] : List Int).map (Value.int .i64))) ∧ (l3 = true → l4 = false → ∃ (B : Option Addr) (m k : Nat), x3 = .agg #[.int .i64 2, .int .i64 2, .slice B m k] ∧ Rd u B m ((List.replicate 4 false).map Value.bool)) ∧ (l4 = true → ∃ (P : Option Addr) (n c : Nat), x4 = .tuple #[.agg #[.int .i64 0, .int .i64 0, .slice P n c], .int .i64 6]) ∧ (l5 = true → ∃ (P : Option Addr) (n c : Nat), x5 = .tuple #[.agg #[.int .i64 0, .int .i64 0, .slice P n c], .int .i64 6]) ∧ (l6 = true → ∃ (P : Option Addr) (n c : Nat), x6 = .agg #[.int .i64 0, .int .i64 0, .slice P n c]) ∧ (l7 = true → x7 = .int .i64 6) ∧ (l8 = true → ∃ b : Nat, x8 = .pointer (some ⟨b, 0, none⟩) ∧ (l9 = false → wR.heap.size ≤ b ∧ Blk u b 40 #[.int .i64 0, .int .i64 0, .slice none 0 0])) ∧ True ∧ (l10 = true → x10 = .int .i64 6)
  | _, _, _ => False
theorem IN9_get (w w2 wR : World) {l0 l1 l2 l3 l4 l5 l6 l7 l8 l9 l10 : Bool} {x0 x1 x2 x3 x4 x5 x6 x7 x8 x9 x10 : Value} {u : World} (h : IN9 w w2 wR [l0, l1, l2, l3, l4, l5, l6, l7, l8, l9, l10] [x0, x1, x2, x3, x4, x5, x6, x7, x8, x9, x10] u) : (St wR [.blk w.heap.size 3 #[.int .i64 0, .int .i64 1, .int .i64 1, .int .i64 1], .blk w2.heap.size 24 #[.int .i64 2, .int .i64 2, .slice (some ⟨w.heap.size, 0, none⟩) 4 4], .blk (w2.heap.size + 1) 3 #[.int .i64 0, .int .i64 1]] u) ∧ (l0 = true → x0 = .agg #[.int .i64 2, .int .i64 2, .slice (some ⟨w.heap.size, 0, none⟩) 4 4]) ∧ (l1 = true → l4 = false → ∃ b : Nat, x1 = .slice (some ⟨b, 0, none⟩) 2 2 ∧ Rd u (some ⟨b, 0, none⟩) 2 (([0, 0] : List Int).map (Value.int .i64))) ∧ (l2 = true → l4 = false → ∃ b : Nat, x2 = .slice (some ⟨b, 0, none⟩) 2 2 ∧ Rd u (some ⟨b, 0, none⟩) 2 (([0, 0] : List Int).map (Value.int .i64))) ∧ (l3 = true → l4 = false → ∃ (B : Option Addr) (m k : Nat), x3 = .agg #[.int .i64 2, .int .i64 2, .slice B m k] ∧ Rd u B m ((List.replicate 4 false).map Value.bool)) ∧ (l4 = true → ∃ (P : Option Addr) (n c : Nat), x4 = .tuple #[.agg #[.int .i64 0, .int .i64 0, .slice P n c], .int .i64 6]) ∧ (l5 = true → ∃ (P : Option Addr) (n c : Nat), x5 = .tuple #[.agg #[.int .i64 0, .int .i64 0, .slice P n c], .int .i64 6]) ∧ (l6 = true → ∃ (P : Option Addr) (n c : Nat), x6 = .agg #[.int .i64 0, .int .i64 0, .slice P n c]) ∧ (l7 = true → x7 = .int .i64 6) ∧ (l8 = true → ∃ b : Nat, x8 = .pointer (some ⟨b, 0, none⟩) ∧ (l9 = false → wR.heap.size ≤ b ∧ Blk u b 40 #[.int .i64 0, .int .i64 0, .slice none 0 0])) ∧ True ∧ (l10 = true → x10 = .int .i64 6) := h
theorem IN9_mk (w w2 wR : World) {l0 l1 l2 l3 l4 l5 l6 l7 l8 l9 l10 : Bool} {x0 x1 x2 x3 x4 x5 x6 x7 x8 x9 x10 : Value} {u : World} (h : (St wR [.blk w.heap.size 3 #[.int .i64 0, .int .i64 1, .int .i64 1, .int .i64 1], .blk w2.heap.size 24 #[.int .i64 2, .int .i64 2, .slice (some ⟨w.heap.size, 0, none⟩) 4 4], .blk (w2.heap.size + 1) 3 #[.int .i64 0, .int .i64 1]] u) ∧ (l0 = true → x0 = .agg #[.int .i64 2, .int .i64 2, .slice (some ⟨w.heap.size, 0, none⟩) 4 4]) ∧ (l1 = true → l4 = false → ∃ b : Nat, x1 = .slice (some ⟨b, 0, none⟩) 2 2 ∧ Rd u (some ⟨b, 0, none⟩) 2 (([0, 0] : List Int).map (Value.int .i64))) ∧ (l2 = true → l4 = false → ∃ b : Nat, x2 = .slice (some ⟨b, 0, none⟩) 2 2 ∧ Rd u (some ⟨b, 0, none⟩) 2 (([0, 0] : List Int).map (Value.int .i64))) ∧ (l3 = true → l4 = false → ∃ (B : Option Addr) (m k : Nat), x3 = .agg #[.int .i64 2, .int .i64 2, .slice B m k] ∧ Rd u B m ((List.replicate 4 false).map Value.bool)) ∧ (l4 = true → ∃ (P : Option Addr) (n c : Nat), x4 = .tuple #[.agg #[.int .i64 0, .int .i64 0, .slice P n c], .int .i64 6]) ∧ (l5 = true → ∃ (P : Option Addr) (n c : Nat), x5 = .tuple #[.agg #[.int .i64 0, .int .i64 0, .slice P n c], .int .i64 6]) ∧ (l6 = true → ∃ (P : Option Addr) (n c : Nat), x6 = .agg #[.int .i64 0, .int .i64 0, .slice P n c]) ∧ (l7 = true → x7 = .int .i64 6) ∧ (l8 = true → ∃ b : Nat, x8 = .pointer (some ⟨b, 0, none⟩) ∧ (l9 = false → wR.heap.size ≤ b ∧ Blk u b 40 #[.int .i64 0, .int .i64 0, .slice none 0 0])) ∧ True ∧ (l10 = true → x10 = .int .i64 6)) : IN9 w w2 wR [l0, l1, l2, l3, l4, l5, l6, l7, l8, l9, l10] [x0, x1, x2, x3, x4, x5, x6, x7, x8, x9, x10] u := h
theorem IN9_b : ∀ l : List Bool, l.length = 11 → ∃ a0 a1 a2 a3 a4 a5 a6 a7 a8 a9 a10, l = [a0, a1, a2, a3, a4, a5, a6, a7, a8, a9, a10]
  | [a0, a1, a2, a3, a4, a5, a6, a7, a8, a9, a10], _ => ⟨a0, a1, a2, a3, a4, a5, a6, a7, a8, a9, a10, rfl⟩
theorem IN9_v : ∀ l : List Value, l.length = 11 → ∃ a0 a1 a2 a3 a4 a5 a6 a7 a8 a9 a10, l = [a0, a1, a2, a3, a4, a5, a6, a7, a8, a9, a10]
  | [a0, a1, a2, a3, a4, a5, a6, a7, a8, a9, a10], _ => ⟨a0, a1, a2, a3, a4, a5, a6, a7, a8, a9, a10, rfl⟩

set_option linter.unusedVariables false in
def IN18 (w w2 wR : World) : List Bool → List Value → World → Prop
  | [l0, l1, l2, l3, l4, l5, l6, l7, l8, l9, l10, l11], [x0, x1, x2, x3, x4, x5, x6, x7, x8, x9, x10, x11], u => (St wR [.blk w.heap.size 3 #[.int .i64 0, .int .i64 1, .int .i64 1, .int .i64 1], .blk w2.heap.size 24 #[.int .i64 2, .int .i64 2, .slice (some ⟨w.heap.size, 0, none⟩) 4 4], .blk (w2.heap.size + 1) 3 #[.int .i64 0, .int .i64 1]] u) ∧ (l0 = true → x0 = .agg #[.int .i64 2, .int .i64 2, .slice (some ⟨w.heap.size, 0, none⟩) 4 4]) ∧ (l1 = true → x1 = .slice (some ⟨(w2.heap.size + 1), 0, none⟩) 2 2) ∧ (l2 = true → l5 = false → ∃ b : Nat, x2 = .slice (some ⟨b, 0, none⟩) 2 2 ∧ Rd u (some ⟨b, 0, none⟩) 2 (([1, 1] : List Int).map (Value.int .i64))) ∧ (l3 = true → l4 = false → ∃ b : Nat, x3 = .slice (some ⟨b, 0, none⟩) 4 4 ∧ Rd u (some ⟨b, 0, none⟩) 4 (([true, true, true, true] : List Bool).map Value.bool)) ∧ (l4 = true → l5 = false → ∃ b : Nat, x4 = .agg #[.int .i64 2, .int .i64 2, .slice (some ⟨b, 0, none⟩) 4 4] ∧ Rd u (some ⟨b, 0, none⟩) 4 (([true, true, true, true] : List Bool).map Value.bool)) ∧ (l5 = true → ∃ (n : Nat) (P : Option Addr) (c : Nat), x5 = .tuple #[.agg #[.int .i64 wvX.w, .int .i64 wvX.h, .slice P n c], .int .i64 0] ∧ Rd u P n (wvX.bits.map Value.bool)) ∧ (l6 = true → ∃ (n : Nat) (P : Option Addr) (c : Nat), x6 = .tuple #[.agg #[.int .i64 wvX.w, .int .i64 wvX.h, .slice P n c], .int .i64 0] ∧ Rd u P n (wvX.bits.map Value.bool)) ∧ (l7 = true → ∃ (n : Nat) (P : Option Addr) (c : Nat), x7 = .agg #[.int .i64 wvX.w, .int .i64 wvX.h, .slice P n c] ∧ Rd u P n (wvX.bits.map Value.bool)) ∧ (l8 = true → x8 = .int .i64 0) ∧ (l9 = true → ∃ b : Nat, x9 = .pointer (some ⟨b, 0, none⟩) ∧ (l10 = false → wR.heap.size ≤ b ∧ Blk u b 40 #[.int .i64 0, .int .i64 0, .slice none 0 0])) ∧ (l10 = true → l9 = true ∧ ∃ (g n : Nat) (P : Option Addr) (c : Nat), x9 = .pointer (some ⟨g, 0, none⟩) ∧ Blk u g 40 #[.int .i64 wvX.w, .int .i64 wvX.h, .slice P n c] ∧ Rd u P n (wvX.bits.map Value.bool)) ∧ (l11 = true → x11 = .int .i64 0)
  | _, _, _ => False
theorem IN18_get (w w2 wR : World) {l0 l1 l2 l3 l4 l5 l6 l7 l8 l9 l10 l11 : Bool} {x0 x1 x2 x3 x4 x5 x6 x7 x8 x9 x10 x11 : Value} {u : World} (h : IN18 w w2 wR [l0, l1, l2, l3, l4, l5, l6, l7, l8, l9, l10, l11] [x0, x1, x2, x3, x4, x5, x6, x7, x8, x9, x10, x11] u) : (St wR [.blk w.heap.size 3 #[.int .i64 0, .int .i64 1, .int .i64 1, .int .i64 1], .blk w2.heap.size 24 #[.int .i64 2, .int .i64 2, .slice (some ⟨w.heap.size, 0, none⟩) 4 4], .blk (w2.heap.size + 1) 3 #[.int .i64 0, .int .i64 1]] u) ∧ (l0 = true → x0 = .agg #[.int .i64 2, .int .i64 2, .slice (some ⟨w.heap.size, 0, none⟩) 4 4]) ∧ (l1 = true → x1 = .slice (some ⟨(w2.heap.size + 1), 0, none⟩) 2 2) ∧ (l2 = true → l5 = false → ∃ b : Nat, x2 = .slice (some ⟨b, 0, none⟩) 2 2 ∧ Rd u (some ⟨b, 0, none⟩) 2 (([1, 1] : List Int).map (Value.int .i64))) ∧ (l3 = true → l4 = false → ∃ b : Nat, x3 = .slice (some ⟨b, 0, none⟩) 4 4 ∧ Rd u (some ⟨b, 0, none⟩) 4 (([true, true, true, true] : List Bool).map Value.bool)) ∧ (l4 = true → l5 = false → ∃ b : Nat, x4 = .agg #[.int .i64 2, .int .i64 2, .slice (some ⟨b, 0, none⟩) 4 4] ∧ Rd u (some ⟨b, 0, none⟩) 4 (([true, true, true, true] : List Bool).map Value.bool)) ∧ (l5 = true → ∃ (n : Nat) (P : Option Addr) (c : Nat), x5 = .tuple #[.agg #[.int .i64 wvX.w, .int .i64 wvX.h, .slice P n c], .int .i64 0] ∧ Rd u P n (wvX.bits.map Value.bool)) ∧ (l6 = true → ∃ (n : Nat) (P : Option Addr) (c : Nat), x6 = .tuple #[.agg #[.int .i64 wvX.w, .int .i64 wvX.h, .slice P n c], .int .i64 0] ∧ Rd u P n (wvX.bits.map Value.bool)) ∧ (l7 = true → ∃ (n : Nat) (P : Option Addr) (c : Nat), x7 = .agg #[.int .i64 wvX.w, .int .i64 wvX.h, .slice P n c] ∧ Rd u P n (wvX.bits.map Value.bool)) ∧ (l8 = true → x8 = .int .i64 0) ∧ (l9 = true → ∃ b : Nat, x9 = .pointer (some ⟨b, 0, none⟩) ∧ (l10 = false → wR.heap.size ≤ b ∧ Blk u b 40 #[.int .i64 0, .int .i64 0, .slice none 0 0])) ∧ (l10 = true → l9 = true ∧ ∃ (g n : Nat) (P : Option Addr) (c : Nat), x9 = .pointer (some ⟨g, 0, none⟩) ∧ Blk u g 40 #[.int .i64 wvX.w, .int .i64 wvX.h, .slice P n c] ∧ Rd u P n (wvX.bits.map Value.bool)) ∧ (l11 = true → x11 = .int .i64 0) := h
theorem IN18_mk (w w2 wR : World) {l0 l1 l2 l3 l4 l5 l6 l7 l8 l9 l10 l11 : Bool} {x0 x1 x2 x3 x4 x5 x6 x7 x8 x9 x10 x11 : Value} {u : World} (h : (St wR [.blk w.heap.size 3 #[.int .i64 0, .int .i64 1, .int .i64 1, .int .i64 1], .blk w2.heap.size 24 #[.int .i64 2, .int .i64 2, .slice (some ⟨w.heap.size, 0, none⟩) 4 4], .blk (w2.heap.size + 1) 3 #[.int .i64 0, .int .i64 1]] u) ∧ (l0 = true → x0 = .agg #[.int .i64 2, .int .i64 2, .slice (some ⟨w.heap.size, 0, none⟩) 4 4]) ∧ (l1 = true → x1 = .slice (some ⟨(w2.heap.size + 1), 0, none⟩) 2 2) ∧ (l2 = true → l5 = false → ∃ b : Nat, x2 = .slice (some ⟨b, 0, none⟩) 2 2 ∧ Rd u (some ⟨b, 0, none⟩) 2 (([1, 1] : List Int).map (Value.int .i64))) ∧ (l3 = true → l4 = false → ∃ b : Nat, x3 = .slice (some ⟨b, 0, none⟩) 4 4 ∧ Rd u (some ⟨b, 0, none⟩) 4 (([true, true, true, true] : List Bool).map Value.bool)) ∧ (l4 = true → l5 = false → ∃ b : Nat, x4 = .agg #[.int .i64 2, .int .i64 2, .slice (some ⟨b, 0, none⟩) 4 4] ∧ Rd u (some ⟨b, 0, none⟩) 4 (([true, true, true, true] : List Bool).map Value.bool)) ∧ (l5 = true → ∃ (n : Nat) (P : Option Addr) (c : Nat), x5 = .tuple #[.agg #[.int .i64 wvX.w, .int .i64 wvX.h, .slice P n c], .int .i64 0] ∧ Rd u P n (wvX.bits.map Value.bool)) ∧ (l6 = true → ∃ (n : Nat) (P : Option Addr) (c : Nat), x6 = .tuple #[.agg #[.int .i64 wvX.w, .int .i64 wvX.h, .slice P n c], .int .i64 0] ∧ Rd u P n (wvX.bits.map Value.bool)) ∧ (l7 = true → ∃ (n : Nat) (P : Option Addr) (c : Nat), x7 = .agg #[.int .i64 wvX.w, .int .i64 wvX.h, .slice P n c] ∧ Rd u P n (wvX.bits.map Value.bool)) ∧ (l8 = true → x8 = .int .i64 0) ∧ (l9 = true → ∃ b : Nat, x9 = .pointer (some ⟨b, 0, none⟩) ∧ (l10 = false → wR.heap.size ≤ b ∧ Blk u b 40 #[.int .i64 0, .int .i64 0, .slice none 0 0])) ∧ (l10 = true → l9 = true ∧ ∃ (g n : Nat) (P : Option Addr) (c : Nat), x9 = .pointer (some ⟨g, 0, none⟩) ∧ Blk u g 40 #[.int .i64 wvX.w, .int .i64 wvX.h, .slice P n c] ∧ Rd u P n (wvX.bits.map Value.bool)) ∧ (l11 = true → x11 = .int .i64 0)) : IN18 w w2 wR [l0, l1, l2, l3, l4, l5, l6, l7, l8, l9, l10, l11] [x0, x1, x2, x3, x4, x5, x6, x7, x8, x9, x10, x11] u := h
theorem IN18_b : ∀ l : List Bool, l.length = 12 → ∃ a0 a1 a2 a3 a4 a5 a6 a7 a8 a9 a10 a11, l = [a0, a1, a2, a3, a4, a5, a6, a7, a8, a9, a10, a11]
  | [a0, a1, a2, a3, a4, a5, a6, a7, a8, a9, a10, a11], _ => ⟨a0, a1, a2, a3, a4, a5, a6, a7, a8, a9, a10, a11, rfl⟩
theorem IN18_v : ∀ l : List Value, l.length = 12 → ∃ a0 a1 a2 a3 a4 a5 a6 a7 a8 a9 a10 a11, l = [a0, a1, a2, a3, a4, a5, a6, a7, a8, a9, a10, a11]
  | [a0, a1, a2, a3, a4, a5, a6, a7, a8, a9, a10, a11], _ => ⟨a0, a1, a2, a3, a4, a5, a6, a7, a8, a9, a10, a11, rfl⟩
theorem rd_one {w : World} {b o : Nat} {v : Value} (h : Rd w (some ⟨b, o, none⟩) 1 [v]) : w.cell? ⟨b, o, none⟩ = some v := h.lit 0 v rfl
set_option linter.unusedVariables false in
set_option linter.unusedSimpArgs false in
set_option maxHeartbeats 40000000 in
set_option maxRecDepth 100000 in
theorem pnames_walk (w : World) : Calls Try.prog 9 #[] w fun e w' => e = .returned (.bool true) ∧ Below w.heap.size w w' := by
  have KI := Lib.hid (fun A n c W => image15_any A n c W)
  have KG := Lib.hid (fun A n c W => grid15_any A n c W)
  have KQ := Lib.hid (fun W => square15_any W)
  have KA := Lib.hid (fun W => alive15_any W)
  have KCa := Lib.hid (fun W => kc_a W)
  have KF0 := Lib.hid (fun W => kfirst0 W)
  have KX0 := Lib.hid (fun W => kchoi0 W)
  have KZ21 := Lib.hid (fun W => kz_21 W)
  have KZ22 := Lib.hid (fun W => kz_22 W)
  have KZ32 := Lib.hid (fun W => kz_32 W)
  have KCb := Lib.hid (fun A Ap Aq n c np cp nq cq W h1 h2 h3 => kc_b A Ap Aq n c np cp nq cq W h1 h2 h3)
  have KCc := Lib.hid (fun A Ap Aq n c np cp nq cq W h1 h2 h3 => kc_c A Ap Aq n c np cp nq cq W h1 h2 h3)
  have KCd := Lib.hid (fun A Ap Aq n c np cp nq cq W h1 h2 h3 => kc_d A Ap Aq n c np cp nq cq W h1 h2 h3)
  have KWe := Lib.hid (fun A Ap Aq n c np cp nq cq W h1 h2 h3 => kw_e A Ap Aq n c np cp nq cq W h1 h2 h3)
  have KWf := Lib.hid (fun A Ap Aq n c np cp nq cq B k d W h1 h2 h3 h4 => kw_f A Ap Aq n c np cp nq cq B k d W h1 h2 h3 h4)
  have KWg := Lib.hid (fun A Ap Aq n c np cp nq cq B k d W h1 h2 h3 h4 => kw_g A Ap Aq n c np cp nq cq B k d W h1 h2 h3 h4)
  have KWp := Lib.hid (fun A Ap Aq n c np cp nq cq B k d W h1 h2 h3 h4 => kw_p A Ap Aq n c np cp nq cq B k d W h1 h2 h3 h4)
  have KSh := Lib.hid (fun B A Ap Aq k d n c np cp nq cq W h1 h2 h3 h4 => ks_h B A Ap Aq k d n c np cp nq cq W h1 h2 h3 h4)
  have KSi := Lib.hid (fun B A Ap Aq k d n c np cp nq cq W h1 h2 h3 h4 => ks_i B A Ap Aq k d n c np cp nq cq W h1 h2 h3 h4)
  have KF1 := Lib.hid (fun A c W h => kfirst1 A c W h)
  have KX1 := Lib.hid (fun A c W h => kchoi1 A c W h)
  have KXQ := Lib.hid (fun A n c W h => kchoisq A n c W h)
  have KL0 := Lib.hid (fun A A' n' c c' W h h' => lsame_any [0] A A' 1 n' c c' W h h' (by decide))
  have KL7 := Lib.hid (fun A A' n' c c' W h h' => lsame_any [7] A A' 1 n' c c' W h h' (by decide))
  have KSW := Lib.hid (fun A A2 n c n2 c2 W h h2 => same_x wvX (by decide) A A2 n c n2 c2 W h h2)
  simp only [show wvX.w = 2 from rfl, show wvX.h = 2 from rfl, decide_true, Bool.and_self, show wvX.bits = [true, true, false, true] from rfl] at KSW
  have S0 := St.start w
  go_enter Try.func9, Try.ntmps9
  have S1 := (S0.box #[.int .i64 0, .int .i64 1, .int .i64 1, .int .i64 1] 3).addRd (n := 4) (xs := ([0, 1, 1, 1] : List Int).map (Value.int .i64)) (rd_of_blk (Blk.new _ 3 #[.int .i64 0, .int .i64 1, .int .i64 1, .int .i64 1]))
  simp only [List.nil_append, List.cons_append] at S1
  go_wp2_with fail
  refine (KI.out _ _ _ _).mono ?_
  rintro e w2 ⟨rfl, hb2⟩
  have S2 := (S1.keep hb2).box #[.int .i64 2, .int .i64 2, .slice (some ⟨w.heap.size, 0, none⟩) 4 4] 24
  simp only [List.nil_append, List.cons_append] at S2
  clear S1
  have S3 := (S2.box #[.int .i64 0, .int .i64 1] 3).addRd (n := 2) (xs := ([0, 1] : List Int).map (Value.int .i64)) (rd_of_blk (Blk.new _ 3 #[.int .i64 0, .int .i64 1]))
  simp only [size_alloc1, List.nil_append, List.cons_append] at S3
  clear S2
  go_wp2_with fail
  refine (KCa.out _).mono ?_
  rintro e w4 ⟨P4, np4, cp4, Q4, nq4, cq4, rfl, hb4⟩
  have S4 := ((S3.keep hb4).alloc (.cells #[.int .i64 0, .int .i64 0, .slice P4 np4 cp4] 40)).alloc (.cells #[.int .i64 0, .int .i64 0, .slice Q4 nq4 cq4] 40)
  clear S3
  obtain ⟨ca0, ca1, ca2⟩ := (S4.blk 2 rfl).cell3
  have S5 := (S4.box #[.int .i64 0] 3).addRd (n := 1) (xs := ([0] : List Int).map (Value.int .i64)) (rd_of_blk (Blk.new _ 3 #[.int .i64 0]))
  simp only [size_alloc1, List.nil_append, List.cons_append] at S5
  clear S4
  as_aux_lemma =>
  go_wp2_with fail
  refine (KCb.out _ _ _ _ _ _ _ _ _ _ (S5.rd 1 rfl) (S5.rd 4 rfl) (S5.rd 6 rfl)).mono ?_
  rintro e w6 ⟨P6, np6, cp6, Q6, nq6, cq6, rfl, hb6⟩
  have S6 := ((S5.keep hb6).alloc (.cells #[.int .i64 0, .int .i64 0, .slice P6 np6 cp6] 40)).alloc (.cells #[.int .i64 0, .int .i64 0, .slice Q6 nq6 cq6] 40)
  clear ca0 ca1 ca2 S5
  obtain ⟨ca0, ca1, ca2⟩ := (S6.blk 2 rfl).cell3
  have S7 := (S6.box #[.int .i64 0, .int .i64 16] 3).addRd (n := 2) (xs := ([0, 16] : List Int).map (Value.int .i64)) (rd_of_blk (Blk.new _ 3 #[.int .i64 0, .int .i64 16]))
  simp only [size_alloc1, List.nil_append, List.cons_append] at S7
  clear S6
  go_wp2_with fail
  refine (KCc.out _ _ _ _ _ _ _ _ _ _ (S7.rd 1 rfl) (S7.rd 8 rfl) (S7.rd 4 rfl)).mono ?_
  rintro e w8 ⟨P8, np8, cp8, Q8, nq8, cq8, rfl, hb8⟩
  have S8 := ((S7.keep hb8).alloc (.cells #[.int .i64 0, .int .i64 0, .slice P8 np8 cp8] 40)).alloc (.cells #[.int .i64 0, .int .i64 0, .slice Q8 nq8 cq8] 40)
  clear ca0 ca1 ca2 S7
  obtain ⟨ca0, ca1, ca2⟩ := (S8.blk 2 rfl).cell3
  have S9 := (S8.box #[.int .i64 0, .int .i64 0] 3).addRd (n := 2) (xs := ([0, 0] : List Int).map (Value.int .i64)) (rd_of_blk (Blk.new _ 3 #[.int .i64 0, .int .i64 0]))
  simp only [size_alloc1, List.nil_append, List.cons_append] at S9
  clear S8
  have S10 := (S9.box #[.int .i64 0, .int .i64 0] 3).addRd (n := 2) (xs := ([0, 0] : List Int).map (Value.int .i64)) (rd_of_blk (Blk.new _ 3 #[.int .i64 0, .int .i64 0]))
  simp only [size_alloc1, List.nil_append, List.cons_append] at S10
  clear S9
  as_aux_lemma =>
  go_wp2_with fail
  refine (KCd.out _ _ _ _ _ _ _ _ _ _ (S10.rd 1 rfl) (S10.rd 10 rfl) (S10.rd 12 rfl)).mono ?_
  rintro e w11 ⟨P11, np11, cp11, Q11, nq11, cq11, rfl, hb11⟩
  have S11 := ((S10.keep hb11).alloc (.cells #[.int .i64 0, .int .i64 0, .slice P11 np11 cp11] 40)).alloc (.cells #[.int .i64 0, .int .i64 0, .slice Q11 nq11 cq11] 40)
  clear ca0 ca1 ca2 S10
  obtain ⟨ca0, ca1, ca2⟩ := (S11.blk 2 rfl).cell3
  have S12 := (S11.box #[.int .i64 0, .int .i64 0] 3).addRd (n := 2) (xs := ([0, 0] : List Int).map (Value.int .i64)) (rd_of_blk (Blk.new _ 3 #[.int .i64 0, .int .i64 0]))
  simp only [size_alloc1, List.nil_append, List.cons_append] at S12
  clear S11
  have S13 := (S12.box #[.int .i64 0, .int .i64 0] 3).addRd (n := 2) (xs := ([0, 0] : List Int).map (Value.int .i64)) (rd_of_blk (Blk.new _ 3 #[.int .i64 0, .int .i64 0]))
  simp only [size_alloc1, List.nil_append, List.cons_append] at S13
  clear S12
  go_wp2_with fail
  refine (KWe.out _ _ _ _ _ _ _ _ _ _ (S13.rd 1 rfl) (S13.rd 14 rfl) (S13.rd 16 rfl)).mono ?_
  rintro e w14 ⟨A14, n14, cc14, rfl, hb14⟩
  have S14 := (S13.keep hb14).alloc (.cells #[.int .i64 0, .int .i64 0, .slice A14 n14 cc14] 40)
  clear ca0 ca1 ca2 S13
  as_aux_lemma =>
  go_upto_region 8 with fail
  obtain ⟨wR8, hwR8⟩ := St.world S14
  have SW := S14
  rw [← hwR8] at SW ⊢
  clear hwR8 S14
  have SB : St wR8 [.blk w.heap.size 3 #[.int .i64 0, .int .i64 1, .int .i64 1, .int .i64 1], .blk w2.heap.size 24 #[.int .i64 2, .int .i64 2, .slice (some ⟨w.heap.size, 0, none⟩) 4 4], .blk (w2.heap.size + 1) 3 #[.int .i64 0, .int .i64 1]] wR8 := (show St wR8 [.blk w.heap.size 3 #[.int .i64 0, .int .i64 1, .int .i64 1, .int .i64 1], .blk w2.heap.size 24 #[.int .i64 2, .int .i64 2, .slice (some ⟨w.heap.size, 0, none⟩) 4 4], .blk (w2.heap.size + 1) 3 #[.int .i64 0, .int .i64 1]] wR8 from ⟨Below.refl _ _, (SW.sub (L' := [.blk w.heap.size 3 #[.int .i64 0, .int .i64 1, .int .i64 1, .int .i64 1], .blk w2.heap.size 24 #[.int .i64 2, .int .i64 2, .slice (some ⟨w.heap.size, 0, none⟩) 4 4], .blk (w2.heap.size + 1) 3 #[.int .i64 0, .int .i64 1]]) (by simp)).2⟩)
  go_cut [17, 18] (fun s17 s18 wx => (∃ g : Nat, s17 = .pointer (some ⟨g, 0, none⟩)) ∧ s18 = .int .i64 26 ∧ St wR8 [.blk w.heap.size 3 #[.int .i64 0, .int .i64 1, .int .i64 1, .int .i64 1], .blk w2.heap.size 24 #[.int .i64 2, .int .i64 2, .slice (some ⟨w.heap.size, 0, none⟩) 4 4], .blk (w2.heap.size + 1) 3 #[.int .i64 0, .int .i64 1]] wx)
  case first =>
    as_aux_lemma =>
      clear SW KI KG KQ KA KCa KF0 KX0 KZ22 KZ32 KCb KCc KCd KWe KWg KWp KSh KSi KF1 KX1 KXQ KL0 KL7 KSW
      have hx0 := (SB.blk 0 rfl).lt
      have hx1 := (SB.blk 1 rfl).lt
      have hx2 := (SB.blk 2 rfl).lt
      refine wp_region_invL 11 [some 85, some 86, some 87, some 88, some 89, some 84, some 90, some 91, some 17, none, some 18] (IN8 w w2 wR8) (by kernel_rfl) rfl rfl (by decide) (by kernel_rfl) (fun xs hx => ?_) (fun i hi => ?_) (fun xs wf hx hG => ?_)
      · obtain ⟨x0, x1, x2, x3, x4, x5, x6, x7, x8, x9, x10, rfl⟩ := IN8_v xs hx
        show IN8 w w2 wR8 [false, false, false, false, false, false, false, false, false, false, false] [x0, x1, x2, x3, x4, x5, x6, x7, x8, x9, x10] _
        exact IN8_mk w w2 wR8 ⟨SB.drew, (fun g1 => by cases g1), (fun g1 => by cases g1), (fun g1 => by cases g1), (fun g1 => by cases g1), (fun g1 => by cases g1), (fun g1 => by cases g1), (fun g1 => by cases g1), (fun g1 => by cases g1), (fun g1 => by cases g1), trivial, (fun g1 => by cases g1)⟩
      · match i, hi with
        | 0, _ =>
          intro o ho l xs w1 hl hx hG hi hdep K hK
          obtain rfl := Option.some.inj (ho.symm.trans rfl)
          clear ho
          obtain ⟨l0, l1, l2, l3, l4, l5, l6, l7, l8, l9, l10, rfl⟩ := IN8_b l hl
          obtain ⟨x0, x1, x2, x3, x4, x5, x6, x7, x8, x9, x10, rfl⟩ := IN8_v xs hx
          obtain rfl : l0 = false := hi
          clear hdep hl hx
          dsimp only [setAll, List.set_cons_zero, List.set_cons_succ] at hK ⊢
          have hf := IN8_get w w2 wR8 hG
          obtain ⟨q0, q1, q2⟩ := (hf.1.blk 1 rfl).cell3
          clear hf
          go_simp
          refine hK.out _ _ ?_
          clear hK K
          obtain ⟨SD, h0, h1, h2, h3, h4, h5, h6, h7, h8, h9, h10⟩ := IN8_get w w2 wR8 hG
          exact IN8_mk w w2 wR8 ⟨SD, (fun g1 => rfl), h1, h2, h3, h4, h5, h6, h7, h8, trivial, h10⟩
        | 1, _ =>
          intro o ho l xs w1 hl hx hG hi hdep K hK
          obtain rfl := Option.some.inj (ho.symm.trans rfl)
          clear ho
          obtain ⟨l0, l1, l2, l3, l4, l5, l6, l7, l8, l9, l10, rfl⟩ := IN8_b l hl
          obtain ⟨x0, x1, x2, x3, x4, x5, x6, x7, x8, x9, x10, rfl⟩ := IN8_v xs hx
          obtain rfl : l1 = false := hi
          clear hdep hl hx
          dsimp only [setAll, List.set_cons_zero, List.set_cons_succ] at hK ⊢
          go_simp
          refine hK.out _ _ ?_
          clear hK K
          obtain ⟨SD, h0, h1, h2, h3, h4, h5, h6, h7, h8, h9, h10⟩ := IN8_get w w2 wR8 hG
          have hb := fun ob => (Below.refl w1.heap.size w1).alloc (Nat.le_refl _) ob
          exact IN8_mk w w2 wR8 ⟨SD.keep (hb _), h0, (fun g1 g2 => ⟨_, rfl, rd_of_blk (Blk.new _ _ _)⟩), (fun g1 g2 => by obtain ⟨b, e, r⟩ := h2 g1 g2; exact ⟨b, e, r.below (hb _)⟩), (fun g1 g2 => by obtain ⟨B, m, k, e, r⟩ := h3 g1 g2; exact ⟨B, m, k, e, r.below (hb _)⟩), h4, h5, h6, h7, (fun g1 => by obtain ⟨b, e, r⟩ := h8 g1; exact ⟨b, e, fun g3 => ⟨(r g3).1, (r g3).2.keep (hb _)⟩⟩), trivial, h10⟩
        | 2, _ =>
          intro o ho l xs w1 hl hx hG hi hdep K hK
          obtain rfl := Option.some.inj (ho.symm.trans rfl)
          clear ho
          obtain ⟨l0, l1, l2, l3, l4, l5, l6, l7, l8, l9, l10, rfl⟩ := IN8_b l hl
          obtain ⟨x0, x1, x2, x3, x4, x5, x6, x7, x8, x9, x10, rfl⟩ := IN8_v xs hx
          obtain rfl : l2 = false := hi
          clear hdep hl hx
          dsimp only [setAll, List.set_cons_zero, List.set_cons_succ] at hK ⊢
          go_simp
          refine hK.out _ _ ?_
          clear hK K
          obtain ⟨SD, h0, h1, h2, h3, h4, h5, h6, h7, h8, h9, h10⟩ := IN8_get w w2 wR8 hG
          have hb := fun ob => (Below.refl w1.heap.size w1).alloc (Nat.le_refl _) ob
          exact IN8_mk w w2 wR8 ⟨SD.keep (hb _), h0, (fun g1 g2 => by obtain ⟨b, e, r⟩ := h1 g1 g2; exact ⟨b, e, r.below (hb _)⟩), (fun g1 g2 => ⟨_, rfl, rd_of_blk (Blk.new _ _ _)⟩), (fun g1 g2 => by obtain ⟨B, m, k, e, r⟩ := h3 g1 g2; exact ⟨B, m, k, e, r.below (hb _)⟩), h4, h5, h6, h7, (fun g1 => by obtain ⟨b, e, r⟩ := h8 g1; exact ⟨b, e, fun g3 => ⟨(r g3).1, (r g3).2.keep (hb _)⟩⟩), trivial, h10⟩
        | 3, _ =>
          intro o ho l xs w1 hl hx hG hi hdep K hK
          obtain rfl := Option.some.inj (ho.symm.trans rfl)
          clear ho
          obtain ⟨l0, l1, l2, l3, l4, l5, l6, l7, l8, l9, l10, rfl⟩ := IN8_b l hl
          obtain ⟨x0, x1, x2, x3, x4, x5, x6, x7, x8, x9, x10, rfl⟩ := IN8_v xs hx
          obtain rfl : l3 = false := hi
          clear hdep hl hx
          dsimp only [setAll, List.set_cons_zero, List.set_cons_succ] at hK ⊢
          go_simp
          refine (KZ21.out _).mono ?_
          rintro e wz ⟨B, m, k, rfl, hown, hbz⟩
          simp only at hown ⊢
          go_wp2_with fail
          refine hK.out _ _ ?_
          clear hK K
          obtain ⟨SD, h0, h1, h2, h3, h4, h5, h6, h7, h8, h9, h10⟩ := IN8_get w w2 wR8 hG
          have hb := hbz
          exact IN8_mk w w2 wR8 ⟨SD.keep hb, h0, (fun g1 g2 => by obtain ⟨b, e, r⟩ := h1 g1 g2; exact ⟨b, e, r.below hb⟩), (fun g1 g2 => by obtain ⟨b, e, r⟩ := h2 g1 g2; exact ⟨b, e, r.below hb⟩), (fun g1 g2 => ⟨_, _, _, rfl, rd_of_own hown⟩), h4, h5, h6, h7, (fun g1 => by obtain ⟨b, e, r⟩ := h8 g1; exact ⟨b, e, fun g3 => ⟨(r g3).1, (r g3).2.keep hb⟩⟩), trivial, h10⟩
        | 4, _ =>
          intro o ho l xs w1 hl hx hG hi hdep K hK
          obtain rfl := Option.some.inj (ho.symm.trans rfl)
          clear ho
          obtain ⟨l0, l1, l2, l3, l4, l5, l6, l7, l8, l9, l10, rfl⟩ := IN8_b l hl
          obtain ⟨x0, x1, x2, x3, x4, x5, x6, x7, x8, x9, x10, rfl⟩ := IN8_v xs hx
          obtain rfl : l4 = false := hi
          obtain rfl : l0 = true := hdep 0 (by kernel_rfl)
          obtain rfl : l1 = true := hdep 1 (by kernel_rfl)
          obtain rfl : l2 = true := hdep 2 (by kernel_rfl)
          obtain rfl : l3 = true := hdep 3 (by kernel_rfl)
          clear hdep hl hx
          dsimp only [setAll, List.set_cons_zero, List.set_cons_succ] at hK ⊢
          have hf := IN8_get w w2 wR8 hG
          have SD := hf.1
          obtain rfl := (hf.2.1 rfl)
          obtain ⟨b1, rfl, r1⟩ := (hf.2.2.1 rfl rfl)
          obtain ⟨b2, rfl, r2⟩ := (hf.2.2.2.1 rfl rfl)
          obtain ⟨B3, m3, k3, rfl, r3⟩ := (hf.2.2.2.2.1 rfl rfl)
          clear hf
          go_simp
          refine (KWf.out _ _ _ _ _ _ _ _ _ _ _ _ _ (rd_of_blk (SD.blk 0 rfl)) r1 r2 r3).mono ?_
          rintro e wz ⟨P, n, c, rfl, hbz⟩
          go_wp2_with fail
          refine hK.out _ _ ?_
          clear hK K
          obtain ⟨SD, h0, h1, h2, h3, h4, h5, h6, h7, h8, h9, h10⟩ := IN8_get w w2 wR8 hG
          have hb := hbz
          exact IN8_mk w w2 wR8 ⟨SD.keep hb, h0, (fun _ g2 => by cases g2), (fun _ g2 => by cases g2), (fun _ g2 => by cases g2), (fun g1 => ⟨_, _, _, rfl⟩), h5, h6, h7, (fun g1 => by obtain ⟨b, e, r⟩ := h8 g1; exact ⟨b, e, fun g3 => ⟨(r g3).1, (r g3).2.keep hb⟩⟩), trivial, h10⟩
        | 5, _ =>
          intro o ho l xs w1 hl hx hG hi hdep K hK
          obtain rfl := Option.some.inj (ho.symm.trans rfl)
          clear ho
          obtain ⟨l0, l1, l2, l3, l4, l5, l6, l7, l8, l9, l10, rfl⟩ := IN8_b l hl
          obtain ⟨x0, x1, x2, x3, x4, x5, x6, x7, x8, x9, x10, rfl⟩ := IN8_v xs hx
          obtain rfl : l5 = false := hi
          obtain rfl : l4 = true := hdep 4 (by kernel_rfl)
          clear hdep hl hx
          dsimp only [setAll, List.set_cons_zero, List.set_cons_succ] at hK ⊢
          have hf := IN8_get w w2 wR8 hG
          obtain ⟨P, n, c, rfl⟩ := (hf.2.2.2.2.2.1 rfl)
          clear hf
          go_simp
          refine hK.out _ _ ?_
          clear hK K
          obtain ⟨SD, h0, h1, h2, h3, h4, h5, h6, h7, h8, h9, h10⟩ := IN8_get w w2 wR8 hG
          exact IN8_mk w w2 wR8 ⟨SD, h0, (fun _ g2 => by cases g2), (fun _ g2 => by cases g2), (fun _ g2 => by cases g2), h4, (fun g1 => ⟨_, _, _, rfl⟩), h6, h7, h8, trivial, h10⟩
        | 6, _ =>
          intro o ho l xs w1 hl hx hG hi hdep K hK
          obtain rfl := Option.some.inj (ho.symm.trans rfl)
          clear ho
          obtain ⟨l0, l1, l2, l3, l4, l5, l6, l7, l8, l9, l10, rfl⟩ := IN8_b l hl
          obtain ⟨x0, x1, x2, x3, x4, x5, x6, x7, x8, x9, x10, rfl⟩ := IN8_v xs hx
          obtain rfl : l6 = false := hi
          obtain rfl : l5 = true := hdep 5 (by kernel_rfl)
          clear hdep hl hx
          dsimp only [setAll, List.set_cons_zero, List.set_cons_succ] at hK ⊢
          have hf := IN8_get w w2 wR8 hG
          obtain ⟨P, n, c, rfl⟩ := (hf.2.2.2.2.2.2.1 rfl)
          clear hf
          go_simp
          refine hK.out _ _ ?_
          clear hK K
          obtain ⟨SD, h0, h1, h2, h3, h4, h5, h6, h7, h8, h9, h10⟩ := IN8_get w w2 wR8 hG
          exact IN8_mk w w2 wR8 ⟨SD, h0, h1, h2, h3, h4, h5, (fun g1 => ⟨_, _, _, rfl⟩), h7, h8, trivial, h10⟩
        | 7, _ =>
          intro o ho l xs w1 hl hx hG hi hdep K hK
          obtain rfl := Option.some.inj (ho.symm.trans rfl)
          clear ho
          obtain ⟨l0, l1, l2, l3, l4, l5, l6, l7, l8, l9, l10, rfl⟩ := IN8_b l hl
          obtain ⟨x0, x1, x2, x3, x4, x5, x6, x7, x8, x9, x10, rfl⟩ := IN8_v xs hx
          obtain rfl : l7 = false := hi
          obtain rfl : l5 = true := hdep 5 (by kernel_rfl)
          clear hdep hl hx
          dsimp only [setAll, List.set_cons_zero, List.set_cons_succ] at hK ⊢
          have hf := IN8_get w w2 wR8 hG
          obtain ⟨P, n, c, rfl⟩ := (hf.2.2.2.2.2.2.1 rfl)
          clear hf
          go_simp
          refine hK.out _ _ ?_
          clear hK K
          obtain ⟨SD, h0, h1, h2, h3, h4, h5, h6, h7, h8, h9, h10⟩ := IN8_get w w2 wR8 hG
          exact IN8_mk w w2 wR8 ⟨SD, h0, h1, h2, h3, h4, h5, h6, (fun g1 => rfl), h8, trivial, h10⟩
        | 8, _ =>
          intro o ho l xs w1 hl hx hG hi hdep K hK
          obtain rfl := Option.some.inj (ho.symm.trans rfl)
          clear ho
          obtain ⟨l0, l1, l2, l3, l4, l5, l6, l7, l8, l9, l10, rfl⟩ := IN8_b l hl
          obtain ⟨x0, x1, x2, x3, x4, x5, x6, x7, x8, x9, x10, rfl⟩ := IN8_v xs hx
          obtain rfl : l8 = false := hi
          clear hdep hl hx
          dsimp only [setAll, List.set_cons_zero, List.set_cons_succ] at hK ⊢
          go_simp
          refine hK.out _ _ ?_
          clear hK K
          obtain ⟨SD, h0, h1, h2, h3, h4, h5, h6, h7, h8, h9, h10⟩ := IN8_get w w2 wR8 hG
          have hb := fun ob => (Below.refl w1.heap.size w1).alloc (Nat.le_refl _) ob
          exact IN8_mk w w2 wR8 ⟨SD.keep (hb _), h0, (fun g1 g2 => by obtain ⟨b, e, r⟩ := h1 g1 g2; exact ⟨b, e, r.below (hb _)⟩), (fun g1 g2 => by obtain ⟨b, e, r⟩ := h2 g1 g2; exact ⟨b, e, r.below (hb _)⟩), (fun g1 g2 => by obtain ⟨B, m, k, e, r⟩ := h3 g1 g2; exact ⟨B, m, k, e, r.below (hb _)⟩), h4, h5, h6, h7, (fun g1 => ⟨_, rfl, fun _ => ⟨SD.size, Blk.new _ _ _⟩⟩), trivial, h10⟩
        | 9, _ =>
          intro o ho l xs w1 hl hx hG hi hdep K hK
          obtain rfl := Option.some.inj (ho.symm.trans rfl)
          clear ho
          obtain ⟨l0, l1, l2, l3, l4, l5, l6, l7, l8, l9, l10, rfl⟩ := IN8_b l hl
          obtain ⟨x0, x1, x2, x3, x4, x5, x6, x7, x8, x9, x10, rfl⟩ := IN8_v xs hx
          obtain rfl : l9 = false := hi
          obtain rfl : l0 = true := hdep 0 (by kernel_rfl)
          obtain rfl : l1 = true := hdep 1 (by kernel_rfl)
          obtain rfl : l2 = true := hdep 2 (by kernel_rfl)
          obtain rfl : l3 = true := hdep 3 (by kernel_rfl)
          obtain rfl : l4 = true := hdep 4 (by kernel_rfl)
          obtain rfl : l5 = true := hdep 5 (by kernel_rfl)
          obtain rfl : l6 = true := hdep 6 (by kernel_rfl)
          obtain rfl : l8 = true := hdep 8 (by kernel_rfl)
          clear hdep hl hx
          dsimp only [setAll, List.set_cons_zero, List.set_cons_succ] at hK ⊢
          have hf := IN8_get w w2 wR8 hG
          obtain ⟨P, n, c, rfl⟩ := (hf.2.2.2.2.2.2.2.1 rfl)
          obtain ⟨b, rfl, r8⟩ := (hf.2.2.2.2.2.2.2.2.2.1 rfl)
          obtain ⟨hge, hB⟩ := r8 rfl
          obtain ⟨z0, z1, z2⟩ := hB.cell3
          obtain ⟨f0, f1, f2⟩ := hB.frozen3
          clear hf
          go_simp
          refine hK.out undef _ ?_
          clear hK K
          obtain ⟨SD, h0, h1, h2, h3, h4, h5, h6, h7, h8, h9, h10⟩ := IN8_get w w2 wR8 hG
          exact IN8_mk w w2 wR8 ⟨(SD.put3 (bb := b) (by omega) hB ⟨(by show _ ≠ _; omega), (by show _ ≠ _; omega), (by show _ ≠ _; omega), trivial⟩ 0 0 P n c), h0, (fun _ g2 => by cases g2), (fun _ g2 => by cases g2), (fun _ g2 => by cases g2), h4, h5, h6, h7, (fun g1 => by obtain ⟨b, e, r⟩ := h8 g1; exact ⟨b, e, fun g3 => by cases g3⟩), trivial, h10⟩
        | 10, _ =>
          intro o ho l xs w1 hl hx hG hi hdep K hK
          obtain rfl := Option.some.inj (ho.symm.trans rfl)
          clear ho
          obtain ⟨l0, l1, l2, l3, l4, l5, l6, l7, l8, l9, l10, rfl⟩ := IN8_b l hl
          obtain ⟨x0, x1, x2, x3, x4, x5, x6, x7, x8, x9, x10, rfl⟩ := IN8_v xs hx
          obtain rfl : l10 = false := hi
          obtain rfl : l7 = true := hdep 7 (by kernel_rfl)
          obtain rfl : l9 = true := hdep 9 (by kernel_rfl)
          obtain rfl : l0 = true := hdep 0 (by kernel_rfl)
          obtain rfl : l1 = true := hdep 1 (by kernel_rfl)
          obtain rfl : l2 = true := hdep 2 (by kernel_rfl)
          obtain rfl : l3 = true := hdep 3 (by kernel_rfl)
          obtain rfl : l4 = true := hdep 4 (by kernel_rfl)
          obtain rfl : l5 = true := hdep 5 (by kernel_rfl)
          obtain rfl : l6 = true := hdep 6 (by kernel_rfl)
          obtain rfl : l8 = true := hdep 8 (by kernel_rfl)
          clear hdep hl hx
          dsimp only [setAll, List.set_cons_zero, List.set_cons_succ] at hK ⊢
          have hf := IN8_get w w2 wR8 hG
          obtain rfl := (hf.2.2.2.2.2.2.2.2.1 rfl)
          clear hf
          go_simp
          refine hK.out _ _ ?_
          clear hK K
          obtain ⟨SD, h0, h1, h2, h3, h4, h5, h6, h7, h8, h9, h10⟩ := IN8_get w w2 wR8 hG
          exact IN8_mk w w2 wR8 ⟨SD, h0, (fun _ g2 => by cases g2), (fun _ g2 => by cases g2), (fun _ g2 => by cases g2), h4, h5, h6, h7, h8, trivial, (fun g1 => rfl)⟩
        | k + 11, h => exact absurd h (by omega)
      · obtain ⟨x0, x1, x2, x3, x4, x5, x6, x7, x8, x9, x10, rfl⟩ := IN8_v xs hx
        have hG : IN8 w w2 wR8 [true, true, true, true, true, true, true, true, true, true, true] [x0, x1, x2, x3, x4, x5, x6, x7, x8, x9, x10] wf := hG
        have hf := IN8_get w w2 wR8 hG
        have SD := hf.1
        obtain ⟨b8, rfl, _⟩ := (hf.2.2.2.2.2.2.2.2.2.1 rfl)
        obtain rfl := (hf.2.2.2.2.2.2.2.2.2.2.2 rfl)
        clear hf hG
        dsimp only [setAll, List.set_cons_zero, List.set_cons_succ]
        go_wp2_with fail
        go_meet
        exact ⟨⟨_, rfl⟩, rfl, SD⟩
  case rest =>
    as_aux_lemma =>
    obtain ⟨⟨gz8, rfl⟩, rfl, SZ⟩ := hcut
    have SR8 := SW.keep SZ.below
    clear SW SB
    as_aux_lemma =>
    go_upto_region 9 with fail
    obtain ⟨wR9, hwR9⟩ := St.world SR8
    have SW := SR8
    rw [← hwR9] at SW ⊢
    clear hwR9 SR8
    have SB : St wR9 [.blk w.heap.size 3 #[.int .i64 0, .int .i64 1, .int .i64 1, .int .i64 1], .blk w2.heap.size 24 #[.int .i64 2, .int .i64 2, .slice (some ⟨w.heap.size, 0, none⟩) 4 4], .blk (w2.heap.size + 1) 3 #[.int .i64 0, .int .i64 1]] wR9 := (show St wR9 [.blk w.heap.size 3 #[.int .i64 0, .int .i64 1, .int .i64 1, .int .i64 1], .blk w2.heap.size 24 #[.int .i64 2, .int .i64 2, .slice (some ⟨w.heap.size, 0, none⟩) 4 4], .blk (w2.heap.size + 1) 3 #[.int .i64 0, .int .i64 1]] wR9 from ⟨Below.refl _ _, (SW.sub (L' := [.blk w.heap.size 3 #[.int .i64 0, .int .i64 1, .int .i64 1, .int .i64 1], .blk w2.heap.size 24 #[.int .i64 2, .int .i64 2, .slice (some ⟨w.heap.size, 0, none⟩) 4 4], .blk (w2.heap.size + 1) 3 #[.int .i64 0, .int .i64 1]]) (by simp)).2⟩)
    go_cut [19, 20] (fun s19 s20 wx => (∃ g : Nat, s19 = .pointer (some ⟨g, 0, none⟩)) ∧ s20 = .int .i64 6 ∧ St wR9 [.blk w.heap.size 3 #[.int .i64 0, .int .i64 1, .int .i64 1, .int .i64 1], .blk w2.heap.size 24 #[.int .i64 2, .int .i64 2, .slice (some ⟨w.heap.size, 0, none⟩) 4 4], .blk (w2.heap.size + 1) 3 #[.int .i64 0, .int .i64 1]] wx)
    case first =>
      as_aux_lemma =>
        clear SW KI KG KQ KA KCa KF0 KX0 KZ21 KZ32 KCb KCc KCd KWe KWf KWp KSh KSi KF1 KX1 KXQ KL0 KL7 KSW
        have hx0 := (SB.blk 0 rfl).lt
        have hx1 := (SB.blk 1 rfl).lt
        have hx2 := (SB.blk 2 rfl).lt
        refine wp_region_invL 11 [some 93, some 94, some 95, some 96, some 97, some 92, some 98, some 99, some 19, none, some 20] (IN9 w w2 wR9) (by kernel_rfl) rfl rfl (by decide) (by kernel_rfl) (fun xs hx => ?_) (fun i hi => ?_) (fun xs wf hx hG => ?_)
        · obtain ⟨x0, x1, x2, x3, x4, x5, x6, x7, x8, x9, x10, rfl⟩ := IN9_v xs hx
          show IN9 w w2 wR9 [false, false, false, false, false, false, false, false, false, false, false] [x0, x1, x2, x3, x4, x5, x6, x7, x8, x9, x10] _
          exact IN9_mk w w2 wR9 ⟨SB.drew, (fun g1 => by cases g1), (fun g1 => by cases g1), (fun g1 => by cases g1), (fun g1 => by cases g1), (fun g1 => by cases g1), (fun g1 => by cases g1), (fun g1 => by cases g1), (fun g1 => by cases g1), (fun g1 => by cases g1), trivial, (fun g1 => by cases g1)⟩
        · match i, hi with
          | 0, _ =>
            intro o ho l xs w1 hl hx hG hi hdep K hK
            obtain rfl := Option.some.inj (ho.symm.trans rfl)
            clear ho
            obtain ⟨l0, l1, l2, l3, l4, l5, l6, l7, l8, l9, l10, rfl⟩ := IN9_b l hl
            obtain ⟨x0, x1, x2, x3, x4, x5, x6, x7, x8, x9, x10, rfl⟩ := IN9_v xs hx
            obtain rfl : l0 = false := hi
            clear hdep hl hx
            dsimp only [setAll, List.set_cons_zero, List.set_cons_succ] at hK ⊢
            have hf := IN9_get w w2 wR9 hG
            obtain ⟨q0, q1, q2⟩ := (hf.1.blk 1 rfl).cell3
            clear hf
            go_simp
            refine hK.out _ _ ?_
            clear hK K
            obtain ⟨SD, h0, h1, h2, h3, h4, h5, h6, h7, h8, h9, h10⟩ := IN9_get w w2 wR9 hG
            exact IN9_mk w w2 wR9 ⟨SD, (fun g1 => rfl), h1, h2, h3, h4, h5, h6, h7, h8, trivial, h10⟩
          | 1, _ =>
            intro o ho l xs w1 hl hx hG hi hdep K hK
            obtain rfl := Option.some.inj (ho.symm.trans rfl)
            clear ho
            obtain ⟨l0, l1, l2, l3, l4, l5, l6, l7, l8, l9, l10, rfl⟩ := IN9_b l hl
            obtain ⟨x0, x1, x2, x3, x4, x5, x6, x7, x8, x9, x10, rfl⟩ := IN9_v xs hx
            obtain rfl : l1 = false := hi
            clear hdep hl hx
            dsimp only [setAll, List.set_cons_zero, List.set_cons_succ] at hK ⊢
            go_simp
            refine hK.out _ _ ?_
            clear hK K
            obtain ⟨SD, h0, h1, h2, h3, h4, h5, h6, h7, h8, h9, h10⟩ := IN9_get w w2 wR9 hG
            have hb := fun ob => (Below.refl w1.heap.size w1).alloc (Nat.le_refl _) ob
            exact IN9_mk w w2 wR9 ⟨SD.keep (hb _), h0, (fun g1 g2 => ⟨_, rfl, rd_of_blk (Blk.new _ _ _)⟩), (fun g1 g2 => by obtain ⟨b, e, r⟩ := h2 g1 g2; exact ⟨b, e, r.below (hb _)⟩), (fun g1 g2 => by obtain ⟨B, m, k, e, r⟩ := h3 g1 g2; exact ⟨B, m, k, e, r.below (hb _)⟩), h4, h5, h6, h7, (fun g1 => by obtain ⟨b, e, r⟩ := h8 g1; exact ⟨b, e, fun g3 => ⟨(r g3).1, (r g3).2.keep (hb _)⟩⟩), trivial, h10⟩
          | 2, _ =>
            intro o ho l xs w1 hl hx hG hi hdep K hK
            obtain rfl := Option.some.inj (ho.symm.trans rfl)
            clear ho
            obtain ⟨l0, l1, l2, l3, l4, l5, l6, l7, l8, l9, l10, rfl⟩ := IN9_b l hl
            obtain ⟨x0, x1, x2, x3, x4, x5, x6, x7, x8, x9, x10, rfl⟩ := IN9_v xs hx
            obtain rfl : l2 = false := hi
            clear hdep hl hx
            dsimp only [setAll, List.set_cons_zero, List.set_cons_succ] at hK ⊢
            go_simp
            refine hK.out _ _ ?_
            clear hK K
            obtain ⟨SD, h0, h1, h2, h3, h4, h5, h6, h7, h8, h9, h10⟩ := IN9_get w w2 wR9 hG
            have hb := fun ob => (Below.refl w1.heap.size w1).alloc (Nat.le_refl _) ob
            exact IN9_mk w w2 wR9 ⟨SD.keep (hb _), h0, (fun g1 g2 => by obtain ⟨b, e, r⟩ := h1 g1 g2; exact ⟨b, e, r.below (hb _)⟩), (fun g1 g2 => ⟨_, rfl, rd_of_blk (Blk.new _ _ _)⟩), (fun g1 g2 => by obtain ⟨B, m, k, e, r⟩ := h3 g1 g2; exact ⟨B, m, k, e, r.below (hb _)⟩), h4, h5, h6, h7, (fun g1 => by obtain ⟨b, e, r⟩ := h8 g1; exact ⟨b, e, fun g3 => ⟨(r g3).1, (r g3).2.keep (hb _)⟩⟩), trivial, h10⟩
          | 3, _ =>
            intro o ho l xs w1 hl hx hG hi hdep K hK
            obtain rfl := Option.some.inj (ho.symm.trans rfl)
            clear ho
            obtain ⟨l0, l1, l2, l3, l4, l5, l6, l7, l8, l9, l10, rfl⟩ := IN9_b l hl
            obtain ⟨x0, x1, x2, x3, x4, x5, x6, x7, x8, x9, x10, rfl⟩ := IN9_v xs hx
            obtain rfl : l3 = false := hi
            clear hdep hl hx
            dsimp only [setAll, List.set_cons_zero, List.set_cons_succ] at hK ⊢
            go_simp
            refine (KZ22.out _).mono ?_
            rintro e wz ⟨B, m, k, rfl, hown, hbz⟩
            simp only at hown ⊢
            go_wp2_with fail
            refine hK.out _ _ ?_
            clear hK K
            obtain ⟨SD, h0, h1, h2, h3, h4, h5, h6, h7, h8, h9, h10⟩ := IN9_get w w2 wR9 hG
            have hb := hbz
            exact IN9_mk w w2 wR9 ⟨SD.keep hb, h0, (fun g1 g2 => by obtain ⟨b, e, r⟩ := h1 g1 g2; exact ⟨b, e, r.below hb⟩), (fun g1 g2 => by obtain ⟨b, e, r⟩ := h2 g1 g2; exact ⟨b, e, r.below hb⟩), (fun g1 g2 => ⟨_, _, _, rfl, rd_of_own hown⟩), h4, h5, h6, h7, (fun g1 => by obtain ⟨b, e, r⟩ := h8 g1; exact ⟨b, e, fun g3 => ⟨(r g3).1, (r g3).2.keep hb⟩⟩), trivial, h10⟩
          | 4, _ =>
            intro o ho l xs w1 hl hx hG hi hdep K hK
            obtain rfl := Option.some.inj (ho.symm.trans rfl)
            clear ho
            obtain ⟨l0, l1, l2, l3, l4, l5, l6, l7, l8, l9, l10, rfl⟩ := IN9_b l hl
            obtain ⟨x0, x1, x2, x3, x4, x5, x6, x7, x8, x9, x10, rfl⟩ := IN9_v xs hx
            obtain rfl : l4 = false := hi
            obtain rfl : l0 = true := hdep 0 (by kernel_rfl)
            obtain rfl : l1 = true := hdep 1 (by kernel_rfl)
            obtain rfl : l2 = true := hdep 2 (by kernel_rfl)
            obtain rfl : l3 = true := hdep 3 (by kernel_rfl)
            clear hdep hl hx
            dsimp only [setAll, List.set_cons_zero, List.set_cons_succ] at hK ⊢
            have hf := IN9_get w w2 wR9 hG
            have SD := hf.1
            obtain rfl := (hf.2.1 rfl)
            obtain ⟨b1, rfl, r1⟩ := (hf.2.2.1 rfl rfl)
            obtain ⟨b2, rfl, r2⟩ := (hf.2.2.2.1 rfl rfl)
            obtain ⟨B3, m3, k3, rfl, r3⟩ := (hf.2.2.2.2.1 rfl rfl)
            clear hf
            go_simp
            refine (KWg.out _ _ _ _ _ _ _ _ _ _ _ _ _ (rd_of_blk (SD.blk 0 rfl)) r1 r2 r3).mono ?_
            rintro e wz ⟨P, n, c, rfl, hbz⟩
            go_wp2_with fail
            refine hK.out _ _ ?_
            clear hK K
            obtain ⟨SD, h0, h1, h2, h3, h4, h5, h6, h7, h8, h9, h10⟩ := IN9_get w w2 wR9 hG
            have hb := hbz
            exact IN9_mk w w2 wR9 ⟨SD.keep hb, h0, (fun _ g2 => by cases g2), (fun _ g2 => by cases g2), (fun _ g2 => by cases g2), (fun g1 => ⟨_, _, _, rfl⟩), h5, h6, h7, (fun g1 => by obtain ⟨b, e, r⟩ := h8 g1; exact ⟨b, e, fun g3 => ⟨(r g3).1, (r g3).2.keep hb⟩⟩), trivial, h10⟩
          | 5, _ =>
            intro o ho l xs w1 hl hx hG hi hdep K hK
            obtain rfl := Option.some.inj (ho.symm.trans rfl)
            clear ho
            obtain ⟨l0, l1, l2, l3, l4, l5, l6, l7, l8, l9, l10, rfl⟩ := IN9_b l hl
            obtain ⟨x0, x1, x2, x3, x4, x5, x6, x7, x8, x9, x10, rfl⟩ := IN9_v xs hx
            obtain rfl : l5 = false := hi
            obtain rfl : l4 = true := hdep 4 (by kernel_rfl)
            clear hdep hl hx
            dsimp only [setAll, List.set_cons_zero, List.set_cons_succ] at hK ⊢
            have hf := IN9_get w w2 wR9 hG
            obtain ⟨P, n, c, rfl⟩ := (hf.2.2.2.2.2.1 rfl)
            clear hf
            go_simp
            refine hK.out _ _ ?_
            clear hK K
            obtain ⟨SD, h0, h1, h2, h3, h4, h5, h6, h7, h8, h9, h10⟩ := IN9_get w w2 wR9 hG
            exact IN9_mk w w2 wR9 ⟨SD, h0, (fun _ g2 => by cases g2), (fun _ g2 => by cases g2), (fun _ g2 => by cases g2), h4, (fun g1 => ⟨_, _, _, rfl⟩), h6, h7, h8, trivial, h10⟩
          | 6, _ =>
            intro o ho l xs w1 hl hx hG hi hdep K hK
            obtain rfl := Option.some.inj (ho.symm.trans rfl)
            clear ho
            obtain ⟨l0, l1, l2, l3, l4, l5, l6, l7, l8, l9, l10, rfl⟩ := IN9_b l hl
            obtain ⟨x0, x1, x2, x3, x4, x5, x6, x7, x8, x9, x10, rfl⟩ := IN9_v xs hx
            obtain rfl : l6 = false := hi
            obtain rfl : l5 = true := hdep 5 (by kernel_rfl)
            clear hdep hl hx
            dsimp only [setAll, List.set_cons_zero, List.set_cons_succ] at hK ⊢
            have hf := IN9_get w w2 wR9 hG
            obtain ⟨P, n, c, rfl⟩ := (hf.2.2.2.2.2.2.1 rfl)
            clear hf
            go_simp
            refine hK.out _ _ ?_
            clear hK K
            obtain ⟨SD, h0, h1, h2, h3, h4, h5, h6, h7, h8, h9, h10⟩ := IN9_get w w2 wR9 hG
            exact IN9_mk w w2 wR9 ⟨SD, h0, h1, h2, h3, h4, h5, (fun g1 => ⟨_, _, _, rfl⟩), h7, h8, trivial, h10⟩
          | 7, _ =>
            intro o ho l xs w1 hl hx hG hi hdep K hK
            obtain rfl := Option.some.inj (ho.symm.trans rfl)
            clear ho
            obtain ⟨l0, l1, l2, l3, l4, l5, l6, l7, l8, l9, l10, rfl⟩ := IN9_b l hl
            obtain ⟨x0, x1, x2, x3, x4, x5, x6, x7, x8, x9, x10, rfl⟩ := IN9_v xs hx
            obtain rfl : l7 = false := hi
            obtain rfl : l5 = true := hdep 5 (by kernel_rfl)
            clear hdep hl hx
            dsimp only [setAll, List.set_cons_zero, List.set_cons_succ] at hK ⊢
            have hf := IN9_get w w2 wR9 hG
            obtain ⟨P, n, c, rfl⟩ := (hf.2.2.2.2.2.2.1 rfl)
            clear hf
            go_simp
            refine hK.out _ _ ?_
            clear hK K
            obtain ⟨SD, h0, h1, h2, h3, h4, h5, h6, h7, h8, h9, h10⟩ := IN9_get w w2 wR9 hG
            exact IN9_mk w w2 wR9 ⟨SD, h0, h1, h2, h3, h4, h5, h6, (fun g1 => rfl), h8, trivial, h10⟩
          | 8, _ =>
            intro o ho l xs w1 hl hx hG hi hdep K hK
            obtain rfl := Option.some.inj (ho.symm.trans rfl)
            clear ho
            obtain ⟨l0, l1, l2, l3, l4, l5, l6, l7, l8, l9, l10, rfl⟩ := IN9_b l hl
            obtain ⟨x0, x1, x2, x3, x4, x5, x6, x7, x8, x9, x10, rfl⟩ := IN9_v xs hx
            obtain rfl : l8 = false := hi
            clear hdep hl hx
            dsimp only [setAll, List.set_cons_zero, List.set_cons_succ] at hK ⊢
            go_simp
            refine hK.out _ _ ?_
            clear hK K
            obtain ⟨SD, h0, h1, h2, h3, h4, h5, h6, h7, h8, h9, h10⟩ := IN9_get w w2 wR9 hG
            have hb := fun ob => (Below.refl w1.heap.size w1).alloc (Nat.le_refl _) ob
            exact IN9_mk w w2 wR9 ⟨SD.keep (hb _), h0, (fun g1 g2 => by obtain ⟨b, e, r⟩ := h1 g1 g2; exact ⟨b, e, r.below (hb _)⟩), (fun g1 g2 => by obtain ⟨b, e, r⟩ := h2 g1 g2; exact ⟨b, e, r.below (hb _)⟩), (fun g1 g2 => by obtain ⟨B, m, k, e, r⟩ := h3 g1 g2; exact ⟨B, m, k, e, r.below (hb _)⟩), h4, h5, h6, h7, (fun g1 => ⟨_, rfl, fun _ => ⟨SD.size, Blk.new _ _ _⟩⟩), trivial, h10⟩
          | 9, _ =>
            intro o ho l xs w1 hl hx hG hi hdep K hK
            obtain rfl := Option.some.inj (ho.symm.trans rfl)
            clear ho
            obtain ⟨l0, l1, l2, l3, l4, l5, l6, l7, l8, l9, l10, rfl⟩ := IN9_b l hl
            obtain ⟨x0, x1, x2, x3, x4, x5, x6, x7, x8, x9, x10, rfl⟩ := IN9_v xs hx
            obtain rfl : l9 = false := hi
            obtain rfl : l0 = true := hdep 0 (by kernel_rfl)
            obtain rfl : l1 = true := hdep 1 (by kernel_rfl)
            obtain rfl : l2 = true := hdep 2 (by kernel_rfl)
            obtain rfl : l3 = true := hdep 3 (by kernel_rfl)
            obtain rfl : l4 = true := hdep 4 (by kernel_rfl)
            obtain rfl : l5 = true := hdep 5 (by kernel_rfl)
            obtain rfl : l6 = true := hdep 6 (by kernel_rfl)
            obtain rfl : l8 = true := hdep 8 (by kernel_rfl)
            clear hdep hl hx
            dsimp only [setAll, List.set_cons_zero, List.set_cons_succ] at hK ⊢
            have hf := IN9_get w w2 wR9 hG
            obtain ⟨P, n, c, rfl⟩ := (hf.2.2.2.2.2.2.2.1 rfl)
            obtain ⟨b, rfl, r8⟩ := (hf.2.2.2.2.2.2.2.2.2.1 rfl)
            obtain ⟨hge, hB⟩ := r8 rfl
            obtain ⟨z0, z1, z2⟩ := hB.cell3
            obtain ⟨f0, f1, f2⟩ := hB.frozen3
            clear hf
            go_simp
            refine hK.out undef _ ?_
            clear hK K
            obtain ⟨SD, h0, h1, h2, h3, h4, h5, h6, h7, h8, h9, h10⟩ := IN9_get w w2 wR9 hG
            exact IN9_mk w w2 wR9 ⟨(SD.put3 (bb := b) (by omega) hB ⟨(by show _ ≠ _; omega), (by show _ ≠ _; omega), (by show _ ≠ _; omega), trivial⟩ 0 0 P n c), h0, (fun _ g2 => by cases g2), (fun _ g2 => by cases g2), (fun _ g2 => by cases g2), h4, h5, h6, h7, (fun g1 => by obtain ⟨b, e, r⟩ := h8 g1; exact ⟨b, e, fun g3 => by cases g3⟩), trivial, h10⟩
          | 10, _ =>
            intro o ho l xs w1 hl hx hG hi hdep K hK
            obtain rfl := Option.some.inj (ho.symm.trans rfl)
            clear ho
            obtain ⟨l0, l1, l2, l3, l4, l5, l6, l7, l8, l9, l10, rfl⟩ := IN9_b l hl
            obtain ⟨x0, x1, x2, x3, x4, x5, x6, x7, x8, x9, x10, rfl⟩ := IN9_v xs hx
            obtain rfl : l10 = false := hi
            obtain rfl : l7 = true := hdep 7 (by kernel_rfl)
            obtain rfl : l9 = true := hdep 9 (by kernel_rfl)
            obtain rfl : l0 = true := hdep 0 (by kernel_rfl)
            obtain rfl : l1 = true := hdep 1 (by kernel_rfl)
            obtain rfl : l2 = true := hdep 2 (by kernel_rfl)
            obtain rfl : l3 = true := hdep 3 (by kernel_rfl)
            obtain rfl : l4 = true := hdep 4 (by kernel_rfl)
            obtain rfl : l5 = true := hdep 5 (by kernel_rfl)
            obtain rfl : l6 = true := hdep 6 (by kernel_rfl)
            obtain rfl : l8 = true := hdep 8 (by kernel_rfl)
            clear hdep hl hx
            dsimp only [setAll, List.set_cons_zero, List.set_cons_succ] at hK ⊢
            have hf := IN9_get w w2 wR9 hG
            obtain rfl := (hf.2.2.2.2.2.2.2.2.1 rfl)
            clear hf
            go_simp
            refine hK.out _ _ ?_
            clear hK K
            obtain ⟨SD, h0, h1, h2, h3, h4, h5, h6, h7, h8, h9, h10⟩ := IN9_get w w2 wR9 hG
            exact IN9_mk w w2 wR9 ⟨SD, h0, (fun _ g2 => by cases g2), (fun _ g2 => by cases g2), (fun _ g2 => by cases g2), h4, h5, h6, h7, h8, trivial, (fun g1 => rfl)⟩
          | k + 11, h => exact absurd h (by omega)
        · obtain ⟨x0, x1, x2, x3, x4, x5, x6, x7, x8, x9, x10, rfl⟩ := IN9_v xs hx
          have hG : IN9 w w2 wR9 [true, true, true, true, true, true, true, true, true, true, true] [x0, x1, x2, x3, x4, x5, x6, x7, x8, x9, x10] wf := hG
          have hf := IN9_get w w2 wR9 hG
          have SD := hf.1
          obtain ⟨b8, rfl, _⟩ := (hf.2.2.2.2.2.2.2.2.2.1 rfl)
          obtain rfl := (hf.2.2.2.2.2.2.2.2.2.2.2 rfl)
          clear hf hG
          dsimp only [setAll, List.set_cons_zero, List.set_cons_succ]
          go_wp2_with fail
          go_meet
          exact ⟨⟨_, rfl⟩, rfl, SD⟩
    case rest =>
      as_aux_lemma =>
      obtain ⟨⟨gz9, rfl⟩, rfl, SZ⟩ := hcut
      have SR9 := SW.keep SZ.below
      clear SW SB
      as_aux_lemma =>
      go_upto_region 10 with fail
      obtain ⟨wR10, hwR10⟩ := St.world SR9
      have SW := SR9
      rw [← hwR10] at SW ⊢
      clear hwR10 SR9
      have SB : St wR10 [.blk w.heap.size 3 #[.int .i64 0, .int .i64 1, .int .i64 1, .int .i64 1], .blk w2.heap.size 24 #[.int .i64 2, .int .i64 2, .slice (some ⟨w.heap.size, 0, none⟩) 4 4], .blk (w2.heap.size + 1) 3 #[.int .i64 0, .int .i64 1]] wR10 := (show St wR10 [.blk w.heap.size 3 #[.int .i64 0, .int .i64 1, .int .i64 1, .int .i64 1], .blk w2.heap.size 24 #[.int .i64 2, .int .i64 2, .slice (some ⟨w.heap.size, 0, none⟩) 4 4], .blk (w2.heap.size + 1) 3 #[.int .i64 0, .int .i64 1]] wR10 from ⟨Below.refl _ _, (SW.sub (L' := [.blk w.heap.size 3 #[.int .i64 0, .int .i64 1, .int .i64 1, .int .i64 1], .blk w2.heap.size 24 #[.int .i64 2, .int .i64 2, .slice (some ⟨w.heap.size, 0, none⟩) 4 4], .blk (w2.heap.size + 1) 3 #[.int .i64 0, .int .i64 1]]) (by simp)).2⟩)
      go_cut [21, 22] (fun s21 s22 wx => s22 = .int .i64 26 ∧ St wR10 [.blk w.heap.size 3 #[.int .i64 0, .int .i64 1, .int .i64 1, .int .i64 1], .blk w2.heap.size 24 #[.int .i64 2, .int .i64 2, .slice (some ⟨w.heap.size, 0, none⟩) 4 4], .blk (w2.heap.size + 1) 3 #[.int .i64 0, .int .i64 1]] wx)
      case first =>
        clear SW KI KG KQ KA KCa KF0 KX0 KZ21 KZ22 KCb KCc KCd KWe KWf KWg KWp KSi KF1 KX1 KXQ KL0 KL7 KSW
        have SD := SB.drew
        clear SB
        refine wp_region_held_drew (S := (fun w' => w'.cell? ⟨w2.heap.size, 0, none⟩ = some (.int .i64 2) ∧ w'.cell? ⟨w2.heap.size, 1, none⟩ = some (.int .i64 2) ∧ w'.cell? ⟨w2.heap.size, 2, none⟩ = some (.slice (some ⟨w.heap.size, 0, none⟩) 4 4))) (by kernel_rfl) ?_ (fun hHeld => ?_)
        · (try dsimp only); exact (SD.blk 1 rfl).cell3
        generalize wR10.drew = wd at *
        have hx0 := (SD.blk 0 rfl).lt
        have hx1 := (SD.blk 1 rfl).lt
        have hx2 := (SD.blk 2 rfl).lt
        refine man_take 1 102 (v := ?_) ⟨_, rfl, rfl⟩ (by kernel_rfl) (by kernel_rfl) (by kernel_rfl) (fun _ _ _ h => h) (by assumption) ?_ ?_
        rotate_left
        · intro oi ho; cases ho; refine ⟨by rfl, ?_⟩; intro w hSw; (try dsimp only at hSw); go_simp; try with_reducible rfl
        (try simp only [Act.put, List.setIfInBounds_toArray, List.set_cons_zero, List.set_cons_succ])
        refine man_take 2 103 (v := ?_) ⟨_, rfl, rfl⟩ (by kernel_rfl) (by kernel_rfl) (by kernel_rfl) (fun _ _ _ h => h) (by assumption) ?_ ?_
        rotate_left
        · intro oi ho; cases ho; refine ⟨by rfl, ?_⟩; intro w hSw; (try dsimp only at hSw); go_simp; try with_reducible rfl
        (try simp only [Act.put, List.setIfInBounds_toArray, List.set_cons_zero, List.set_cons_succ])
        refine man_take 3 104 (v := ?_) ⟨_, rfl, rfl⟩ (by kernel_rfl) (by kernel_rfl) (by kernel_rfl) (fun _ _ _ h => h) (by assumption) ?_ ?_
        rotate_left
        · intro oi ho; cases ho; refine ⟨by rfl, ?_⟩; intro w hSw; (try dsimp only at hSw); go_simp; try with_reducible rfl
        (try simp only [Act.put, List.setIfInBounds_toArray, List.set_cons_zero, List.set_cons_succ])
        refine man_run 0 rfl (by kernel_rfl) (fun K hK => ?_)
        go_simp
        refine (KZ32.out _).mono ?_
        rintro e wz0 ⟨B0, m0, k0, rfl, hown0, hb0⟩
        have hs0 := hb0.size
        have hw0 := SD.size
        replace SD := SD.keep hb0
        try simp only at hown0 ⊢
        have ho0 := own_base hown0 hw0
        clear hown0
        go_wp2_with fail
        refine hK.out _ _ ?_ (fun hHeld => ?_)
        · (try dsimp only); exact (SD.blk 1 rfl).cell3
        clear hK K
        (try simp only [Act.put, List.setIfInBounds_toArray, List.set_cons_zero, List.set_cons_succ])
        refine man_run 4 rfl (by kernel_rfl) (fun K hK => ?_)
        go_simp
        refine (KSh.out _ _ _ _ _ _ _ _ _ _ _ _ _ (rd_of_own ho0) (rd_of_blk (SD.blk 0 rfl)) (rd_of_blk (SD.blk 2 rfl)) (rd_of_blk (SD.blk 2 rfl))).mono ?_
        rintro e wz4 ⟨rfl, hb4⟩
        have hs4 := hb4.size
        have hw4 := SD.size
        replace SD := SD.keep hb4
        replace ho0 := own_below ho0 hb4
        go_wp2_with fail
        refine hK.out _ _ ?_ (fun hHeld => ?_)
        · (try dsimp only); exact (SD.blk 1 rfl).cell3
        clear hK K
        (try simp only [Act.put, List.setIfInBounds_toArray, List.set_cons_zero, List.set_cons_succ])
        refine man_take 5 100 (v := ?_) ⟨_, rfl, rfl⟩ (by kernel_rfl) (by kernel_rfl) (by kernel_rfl) (fun _ _ _ h => h) (by assumption) ?_ ?_
        rotate_left
        · intro oi ho; cases ho; refine ⟨by rfl, ?_⟩; intro w hSw; (try dsimp only at hSw); go_simp; try with_reducible rfl
        (try simp only [Act.put, List.setIfInBounds_toArray, List.set_cons_zero, List.set_cons_succ])
        refine man_take 6 106 (v := ?_) ⟨_, rfl, rfl⟩ (by kernel_rfl) (by kernel_rfl) (by kernel_rfl) (fun _ _ _ h => h) (by assumption) ?_ ?_
        rotate_left
        · intro oi ho; cases ho; refine ⟨by rfl, ?_⟩; intro w hSw; (try dsimp only at hSw); go_simp; try with_reducible rfl
        (try simp only [Act.put, List.setIfInBounds_toArray, List.set_cons_zero, List.set_cons_succ])
        refine man_take 7 107 (v := ?_) ⟨_, rfl, rfl⟩ (by kernel_rfl) (by kernel_rfl) (by kernel_rfl) (fun _ _ _ h => h) (by assumption) ?_ ?_
        rotate_left
        · intro oi ho; cases ho; refine ⟨by rfl, ?_⟩; intro w hSw; (try dsimp only at hSw); go_simp; try with_reducible rfl
        (try simp only [Act.put, List.setIfInBounds_toArray, List.set_cons_zero, List.set_cons_succ])
        refine man_take 8 21 (v := ?_) ⟨_, rfl, rfl⟩ (by kernel_rfl) (by kernel_rfl) (by kernel_rfl) (fun _ _ _ h => h) (by assumption) ?_ ?_
        rotate_left
        · intro oi ho; cases ho; refine ⟨by rfl, ?_⟩; intro w hSw; (try dsimp only at hSw); go_simp; try with_reducible rfl
        (try simp only [Act.put, List.setIfInBounds_toArray, List.set_cons_zero, List.set_cons_succ])
        refine man_take 9 22 (v := ?_) ⟨_, rfl, rfl⟩ (by kernel_rfl) (by kernel_rfl) (by kernel_rfl) (fun _ _ _ h => h) (by assumption) ?_ ?_
        rotate_left
        · intro oi ho; cases ho; refine ⟨by rfl, ?_⟩; intro w hSw; (try dsimp only at hSw); go_simp; try with_reducible rfl
        (try simp only [Act.put, List.setIfInBounds_toArray, List.set_cons_zero, List.set_cons_succ])
        refine wpAnyH_done (by kernel_rfl) ?_ _
        go_wp2_with fail
        go_meet
        exact ⟨rfl, SD.sub (L' := [.blk w.heap.size 3 #[.int .i64 0, .int .i64 1, .int .i64 1, .int .i64 1], .blk w2.heap.size 24 #[.int .i64 2, .int .i64 2, .slice (some ⟨w.heap.size, 0, none⟩) 4 4], .blk (w2.heap.size + 1) 3 #[.int .i64 0, .int .i64 1]]) (by simp)⟩
      case rest =>
        as_aux_lemma =>
        obtain ⟨rfl, SZ⟩ := hcut
        have SR10 := SW.keep SZ.below
        clear SW SB
        as_aux_lemma =>
        go_upto_region 11 with fail
        obtain ⟨wR11, hwR11⟩ := St.world SR10
        have SW := SR10
        rw [← hwR11] at SW ⊢
        clear hwR11 SR10
        have SB : St wR11 [.blk w.heap.size 3 #[.int .i64 0, .int .i64 1, .int .i64 1, .int .i64 1], .blk w2.heap.size 24 #[.int .i64 2, .int .i64 2, .slice (some ⟨w.heap.size, 0, none⟩) 4 4], .blk (w2.heap.size + 1) 3 #[.int .i64 0, .int .i64 1]] wR11 := (show St wR11 [.blk w.heap.size 3 #[.int .i64 0, .int .i64 1, .int .i64 1, .int .i64 1], .blk w2.heap.size 24 #[.int .i64 2, .int .i64 2, .slice (some ⟨w.heap.size, 0, none⟩) 4 4], .blk (w2.heap.size + 1) 3 #[.int .i64 0, .int .i64 1]] wR11 from ⟨Below.refl _ _, (SW.sub (L' := [.blk w.heap.size 3 #[.int .i64 0, .int .i64 1, .int .i64 1, .int .i64 1], .blk w2.heap.size 24 #[.int .i64 2, .int .i64 2, .slice (some ⟨w.heap.size, 0, none⟩) 4 4], .blk (w2.heap.size + 1) 3 #[.int .i64 0, .int .i64 1]]) (by simp)).2⟩)
        go_cut [23, 24] (fun s23 s24 wx => s23 = .bool false ∧ s24 = .int .i64 0 ∧ St wR11 [.blk w.heap.size 3 #[.int .i64 0, .int .i64 1, .int .i64 1, .int .i64 1], .blk w2.heap.size 24 #[.int .i64 2, .int .i64 2, .slice (some ⟨w.heap.size, 0, none⟩) 4 4], .blk (w2.heap.size + 1) 3 #[.int .i64 0, .int .i64 1]] wx)
        case first =>
          clear SW KI KG KQ KA KCa KF0 KX0 KZ21 KZ32 KCb KCc KCd KWe KWf KWg KWp KSh KF1 KX1 KXQ KL0 KL7 KSW
          have SD := SB.drew
          clear SB
          refine wp_region_held_drew (S := (fun w' => w'.cell? ⟨w2.heap.size, 0, none⟩ = some (.int .i64 2) ∧ w'.cell? ⟨w2.heap.size, 1, none⟩ = some (.int .i64 2) ∧ w'.cell? ⟨w2.heap.size, 2, none⟩ = some (.slice (some ⟨w.heap.size, 0, none⟩) 4 4))) (by kernel_rfl) ?_ (fun hHeld => ?_)
          · (try dsimp only); exact (SD.blk 1 rfl).cell3
          generalize wR11.drew = wd at *
          have hx0 := (SD.blk 0 rfl).lt
          have hx1 := (SD.blk 1 rfl).lt
          have hx2 := (SD.blk 2 rfl).lt
          refine man_take 1 110 (v := ?_) ⟨_, rfl, rfl⟩ (by kernel_rfl) (by kernel_rfl) (by kernel_rfl) (fun _ _ _ h => h) (by assumption) ?_ ?_
          rotate_left
          · intro oi ho; cases ho; refine ⟨by rfl, ?_⟩; intro w hSw; (try dsimp only at hSw); go_simp; try with_reducible rfl
          (try simp only [Act.put, List.setIfInBounds_toArray, List.set_cons_zero, List.set_cons_succ])
          refine man_three 0 2 3 rfl rfl rfl (by kernel_rfl) (fun K hK => ?_) (fun K hK => ?_) (fun K hK => ?_)
          · go_simp
            refine (KZ22.out _).mono ?_
            rintro e wz0 ⟨B0, m0, k0, rfl, hown0, hb0⟩
            have hs0 := hb0.size
            have hw0 := SD.size
            replace SD := SD.keep hb0
            try simp only at hown0 ⊢
            have ho0 := own_base hown0 hw0
            clear hown0
            go_wp2_with fail
            refine hK.out _ _ ?_ (fun hHeld => ?_)
            · (try dsimp only); exact (SD.blk 1 rfl).cell3
            clear hK K
            (try simp only [Act.put, List.setIfInBounds_toArray, List.set_cons_zero, List.set_cons_succ])
            refine man_two 2 3 rfl rfl (by kernel_rfl) (fun K hK => ?_) (fun K hK => ?_)
            · go_simp
              have hz2 := size_alloc1 wz0 (.cells #[.int .i64 0, .int .i64 0] 3)
              replace SD := SD.box #[.int .i64 0, .int .i64 0] 3
              simp only [List.nil_append, List.cons_append] at SD
              replace ho0 := ho0.alloc (.cells #[.int .i64 0, .int .i64 0] 3)
              generalize wz0.alloc (.cells #[.int .i64 0, .int .i64 0] 3) = wz2 at *
              refine hK.out _ _ ?_ (fun hHeld => ?_)
              · (try dsimp only); exact (SD.blk 1 rfl).cell3
              clear hK K
              (try simp only [Act.put, List.setIfInBounds_toArray, List.set_cons_zero, List.set_cons_succ])
              refine man_run 3 rfl (by kernel_rfl) (fun K hK => ?_)
              go_simp
              have hz3 := size_alloc1 wz2 (.cells #[.int .i64 0, .int .i64 0] 3)
              replace SD := SD.box #[.int .i64 0, .int .i64 0] 3
              simp only [List.nil_append, List.cons_append] at SD
              rw [hz2] at hz3
              simp only [hz2] at SD
              replace ho0 := ho0.alloc (.cells #[.int .i64 0, .int .i64 0] 3)
              generalize wz2.alloc (.cells #[.int .i64 0, .int .i64 0] 3) = wz3 at *
              refine hK.out _ _ ?_ (fun hHeld => ?_)
              · (try dsimp only); exact (SD.blk 1 rfl).cell3
              clear hK K
              (try simp only [Act.put, List.setIfInBounds_toArray, List.set_cons_zero, List.set_cons_succ])
              refine man_run 4 rfl (by kernel_rfl) (fun K hK => ?_)
              go_simp
              refine (KSi.out _ _ _ _ _ _ _ _ _ _ _ _ _ (rd_of_own ho0) (rd_of_blk (SD.blk 0 rfl)) (rd_of_blk (SD.blk 3 rfl)) (rd_of_blk (SD.blk 4 rfl))).mono ?_
              rintro e wz4 ⟨rfl, hb4⟩
              have hs4 := hb4.size
              have hw4 := SD.size
              replace SD := SD.keep hb4
              replace ho0 := own_below ho0 hb4
              go_wp2_with fail
              refine hK.out _ _ ?_ (fun hHeld => ?_)
              · (try dsimp only); exact (SD.blk 1 rfl).cell3
              clear hK K
              (try simp only [Act.put, List.setIfInBounds_toArray, List.set_cons_zero, List.set_cons_succ])
              refine man_take 5 108 (v := ?_) ⟨_, rfl, rfl⟩ (by kernel_rfl) (by kernel_rfl) (by kernel_rfl) (fun _ _ _ h => h) (by assumption) ?_ ?_
              rotate_left
              · intro oi ho; cases ho; refine ⟨by rfl, ?_⟩; intro w hSw; (try dsimp only at hSw); go_simp; try with_reducible rfl
              (try simp only [Act.put, List.setIfInBounds_toArray, List.set_cons_zero, List.set_cons_succ])
              refine man_take 6 114 (v := ?_) ⟨_, rfl, rfl⟩ (by kernel_rfl) (by kernel_rfl) (by kernel_rfl) (fun _ _ _ h => h) (by assumption) ?_ ?_
              rotate_left
              · intro oi ho; cases ho; refine ⟨by rfl, ?_⟩; intro w hSw; (try dsimp only at hSw); go_simp; try with_reducible rfl
              (try simp only [Act.put, List.setIfInBounds_toArray, List.set_cons_zero, List.set_cons_succ])
              refine man_take 7 115 (v := ?_) ⟨_, rfl, rfl⟩ (by kernel_rfl) (by kernel_rfl) (by kernel_rfl) (fun _ _ _ h => h) (by assumption) ?_ ?_
              rotate_left
              · intro oi ho; cases ho; refine ⟨by rfl, ?_⟩; intro w hSw; (try dsimp only at hSw); go_simp; try with_reducible rfl
              (try simp only [Act.put, List.setIfInBounds_toArray, List.set_cons_zero, List.set_cons_succ])
              refine man_take 8 23 (v := ?_) ⟨_, rfl, rfl⟩ (by kernel_rfl) (by kernel_rfl) (by kernel_rfl) (fun _ _ _ h => h) (by assumption) ?_ ?_
              rotate_left
              · intro oi ho; cases ho; refine ⟨by rfl, ?_⟩; intro w hSw; (try dsimp only at hSw); go_simp; try with_reducible rfl
              (try simp only [Act.put, List.setIfInBounds_toArray, List.set_cons_zero, List.set_cons_succ])
              refine man_take 9 24 (v := ?_) ⟨_, rfl, rfl⟩ (by kernel_rfl) (by kernel_rfl) (by kernel_rfl) (fun _ _ _ h => h) (by assumption) ?_ ?_
              rotate_left
              · intro oi ho; cases ho; refine ⟨by rfl, ?_⟩; intro w hSw; (try dsimp only at hSw); go_simp; try with_reducible rfl
              (try simp only [Act.put, List.setIfInBounds_toArray, List.set_cons_zero, List.set_cons_succ])
              refine wpAnyH_done (by kernel_rfl) ?_ _
              go_wp2_with fail
              go_meet
              exact ⟨rfl, rfl, SD.sub (L' := [.blk w.heap.size 3 #[.int .i64 0, .int .i64 1, .int .i64 1, .int .i64 1], .blk w2.heap.size 24 #[.int .i64 2, .int .i64 2, .slice (some ⟨w.heap.size, 0, none⟩) 4 4], .blk (w2.heap.size + 1) 3 #[.int .i64 0, .int .i64 1]]) (by simp)⟩
            · go_simp
              have hz3 := size_alloc1 wz0 (.cells #[.int .i64 0, .int .i64 0] 3)
              replace SD := SD.box #[.int .i64 0, .int .i64 0] 3
              simp only [List.nil_append, List.cons_append] at SD
              replace ho0 := ho0.alloc (.cells #[.int .i64 0, .int .i64 0] 3)
              generalize wz0.alloc (.cells #[.int .i64 0, .int .i64 0] 3) = wz3 at *
              refine hK.out _ _ ?_ (fun hHeld => ?_)
              · (try dsimp only); exact (SD.blk 1 rfl).cell3
              clear hK K
              (try simp only [Act.put, List.setIfInBounds_toArray, List.set_cons_zero, List.set_cons_succ])
              refine man_run 2 rfl (by kernel_rfl) (fun K hK => ?_)
              go_simp
              have hz2 := size_alloc1 wz3 (.cells #[.int .i64 0, .int .i64 0] 3)
              replace SD := SD.box #[.int .i64 0, .int .i64 0] 3
              simp only [List.nil_append, List.cons_append] at SD
              rw [hz3] at hz2
              simp only [hz3] at SD
              replace ho0 := ho0.alloc (.cells #[.int .i64 0, .int .i64 0] 3)
              generalize wz3.alloc (.cells #[.int .i64 0, .int .i64 0] 3) = wz2 at *
              refine hK.out _ _ ?_ (fun hHeld => ?_)
              · (try dsimp only); exact (SD.blk 1 rfl).cell3
              clear hK K
              (try simp only [Act.put, List.setIfInBounds_toArray, List.set_cons_zero, List.set_cons_succ])
              refine man_run 4 rfl (by kernel_rfl) (fun K hK => ?_)
              go_simp
              refine (KSi.out _ _ _ _ _ _ _ _ _ _ _ _ _ (rd_of_own ho0) (rd_of_blk (SD.blk 0 rfl)) (rd_of_blk (SD.blk 4 rfl)) (rd_of_blk (SD.blk 3 rfl))).mono ?_
              rintro e wz4 ⟨rfl, hb4⟩
              have hs4 := hb4.size
              have hw4 := SD.size
              replace SD := SD.keep hb4
              replace ho0 := own_below ho0 hb4
              go_wp2_with fail
              refine hK.out _ _ ?_ (fun hHeld => ?_)
              · (try dsimp only); exact (SD.blk 1 rfl).cell3
              clear hK K
              (try simp only [Act.put, List.setIfInBounds_toArray, List.set_cons_zero, List.set_cons_succ])
              refine man_take 5 108 (v := ?_) ⟨_, rfl, rfl⟩ (by kernel_rfl) (by kernel_rfl) (by kernel_rfl) (fun _ _ _ h => h) (by assumption) ?_ ?_
              rotate_left
              · intro oi ho; cases ho; refine ⟨by rfl, ?_⟩; intro w hSw; (try dsimp only at hSw); go_simp; try with_reducible rfl
              (try simp only [Act.put, List.setIfInBounds_toArray, List.set_cons_zero, List.set_cons_succ])
              refine man_take 6 114 (v := ?_) ⟨_, rfl, rfl⟩ (by kernel_rfl) (by kernel_rfl) (by kernel_rfl) (fun _ _ _ h => h) (by assumption) ?_ ?_
              rotate_left
              · intro oi ho; cases ho; refine ⟨by rfl, ?_⟩; intro w hSw; (try dsimp only at hSw); go_simp; try with_reducible rfl
              (try simp only [Act.put, List.setIfInBounds_toArray, List.set_cons_zero, List.set_cons_succ])
              refine man_take 7 115 (v := ?_) ⟨_, rfl, rfl⟩ (by kernel_rfl) (by kernel_rfl) (by kernel_rfl) (fun _ _ _ h => h) (by assumption) ?_ ?_
              rotate_left
              · intro oi ho; cases ho; refine ⟨by rfl, ?_⟩; intro w hSw; (try dsimp only at hSw); go_simp; try with_reducible rfl
              (try simp only [Act.put, List.setIfInBounds_toArray, List.set_cons_zero, List.set_cons_succ])
              refine man_take 8 23 (v := ?_) ⟨_, rfl, rfl⟩ (by kernel_rfl) (by kernel_rfl) (by kernel_rfl) (fun _ _ _ h => h) (by assumption) ?_ ?_
              rotate_left
              · intro oi ho; cases ho; refine ⟨by rfl, ?_⟩; intro w hSw; (try dsimp only at hSw); go_simp; try with_reducible rfl
              (try simp only [Act.put, List.setIfInBounds_toArray, List.set_cons_zero, List.set_cons_succ])
              refine man_take 9 24 (v := ?_) ⟨_, rfl, rfl⟩ (by kernel_rfl) (by kernel_rfl) (by kernel_rfl) (fun _ _ _ h => h) (by assumption) ?_ ?_
              rotate_left
              · intro oi ho; cases ho; refine ⟨by rfl, ?_⟩; intro w hSw; (try dsimp only at hSw); go_simp; try with_reducible rfl
              (try simp only [Act.put, List.setIfInBounds_toArray, List.set_cons_zero, List.set_cons_succ])
              refine wpAnyH_done (by kernel_rfl) ?_ _
              go_wp2_with fail
              go_meet
              exact ⟨rfl, rfl, SD.sub (L' := [.blk w.heap.size 3 #[.int .i64 0, .int .i64 1, .int .i64 1, .int .i64 1], .blk w2.heap.size 24 #[.int .i64 2, .int .i64 2, .slice (some ⟨w.heap.size, 0, none⟩) 4 4], .blk (w2.heap.size + 1) 3 #[.int .i64 0, .int .i64 1]]) (by simp)⟩
          · go_simp
            have hz2 := size_alloc1 wd (.cells #[.int .i64 0, .int .i64 0] 3)
            replace SD := SD.box #[.int .i64 0, .int .i64 0] 3
            simp only [List.nil_append, List.cons_append] at SD
            generalize wd.alloc (.cells #[.int .i64 0, .int .i64 0] 3) = wz2 at *
            refine hK.out _ _ ?_ (fun hHeld => ?_)
            · (try dsimp only); exact (SD.blk 1 rfl).cell3
            clear hK K
            (try simp only [Act.put, List.setIfInBounds_toArray, List.set_cons_zero, List.set_cons_succ])
            refine man_two 0 3 rfl rfl (by kernel_rfl) (fun K hK => ?_) (fun K hK => ?_)
            · go_simp
              refine (KZ22.out _).mono ?_
              rintro e wz0 ⟨B0, m0, k0, rfl, hown0, hb0⟩
              have hs0 := hb0.size
              have hw0 := SD.size
              replace SD := SD.keep hb0
              try simp only at hown0 ⊢
              have ho0 := own_base hown0 hw0
              clear hown0
              go_wp2_with fail
              refine hK.out _ _ ?_ (fun hHeld => ?_)
              · (try dsimp only); exact (SD.blk 1 rfl).cell3
              clear hK K
              (try simp only [Act.put, List.setIfInBounds_toArray, List.set_cons_zero, List.set_cons_succ])
              refine man_run 3 rfl (by kernel_rfl) (fun K hK => ?_)
              go_simp
              have hz3 := size_alloc1 wz0 (.cells #[.int .i64 0, .int .i64 0] 3)
              replace SD := SD.box #[.int .i64 0, .int .i64 0] 3
              simp only [List.nil_append, List.cons_append] at SD
              replace ho0 := ho0.alloc (.cells #[.int .i64 0, .int .i64 0] 3)
              generalize wz0.alloc (.cells #[.int .i64 0, .int .i64 0] 3) = wz3 at *
              refine hK.out _ _ ?_ (fun hHeld => ?_)
              · (try dsimp only); exact (SD.blk 1 rfl).cell3
              clear hK K
              (try simp only [Act.put, List.setIfInBounds_toArray, List.set_cons_zero, List.set_cons_succ])
              refine man_run 4 rfl (by kernel_rfl) (fun K hK => ?_)
              go_simp
              refine (KSi.out _ _ _ _ _ _ _ _ _ _ _ _ _ (rd_of_own ho0) (rd_of_blk (SD.blk 0 rfl)) (rd_of_blk (SD.blk 3 rfl)) (rd_of_blk (SD.blk 4 rfl))).mono ?_
              rintro e wz4 ⟨rfl, hb4⟩
              have hs4 := hb4.size
              have hw4 := SD.size
              replace SD := SD.keep hb4
              replace ho0 := own_below ho0 hb4
              go_wp2_with fail
              refine hK.out _ _ ?_ (fun hHeld => ?_)
              · (try dsimp only); exact (SD.blk 1 rfl).cell3
              clear hK K
              (try simp only [Act.put, List.setIfInBounds_toArray, List.set_cons_zero, List.set_cons_succ])
              refine man_take 5 108 (v := ?_) ⟨_, rfl, rfl⟩ (by kernel_rfl) (by kernel_rfl) (by kernel_rfl) (fun _ _ _ h => h) (by assumption) ?_ ?_
              rotate_left
              · intro oi ho; cases ho; refine ⟨by rfl, ?_⟩; intro w hSw; (try dsimp only at hSw); go_simp; try with_reducible rfl
              (try simp only [Act.put, List.setIfInBounds_toArray, List.set_cons_zero, List.set_cons_succ])
              refine man_take 6 114 (v := ?_) ⟨_, rfl, rfl⟩ (by kernel_rfl) (by kernel_rfl) (by kernel_rfl) (fun _ _ _ h => h) (by assumption) ?_ ?_
              rotate_left
              · intro oi ho; cases ho; refine ⟨by rfl, ?_⟩; intro w hSw; (try dsimp only at hSw); go_simp; try with_reducible rfl
              (try simp only [Act.put, List.setIfInBounds_toArray, List.set_cons_zero, List.set_cons_succ])
              refine man_take 7 115 (v := ?_) ⟨_, rfl, rfl⟩ (by kernel_rfl) (by kernel_rfl) (by kernel_rfl) (fun _ _ _ h => h) (by assumption) ?_ ?_
              rotate_left
              · intro oi ho; cases ho; refine ⟨by rfl, ?_⟩; intro w hSw; (try dsimp only at hSw); go_simp; try with_reducible rfl
              (try simp only [Act.put, List.setIfInBounds_toArray, List.set_cons_zero, List.set_cons_succ])
              refine man_take 8 23 (v := ?_) ⟨_, rfl, rfl⟩ (by kernel_rfl) (by kernel_rfl) (by kernel_rfl) (fun _ _ _ h => h) (by assumption) ?_ ?_
              rotate_left
              · intro oi ho; cases ho; refine ⟨by rfl, ?_⟩; intro w hSw; (try dsimp only at hSw); go_simp; try with_reducible rfl
              (try simp only [Act.put, List.setIfInBounds_toArray, List.set_cons_zero, List.set_cons_succ])
              refine man_take 9 24 (v := ?_) ⟨_, rfl, rfl⟩ (by kernel_rfl) (by kernel_rfl) (by kernel_rfl) (fun _ _ _ h => h) (by assumption) ?_ ?_
              rotate_left
              · intro oi ho; cases ho; refine ⟨by rfl, ?_⟩; intro w hSw; (try dsimp only at hSw); go_simp; try with_reducible rfl
              (try simp only [Act.put, List.setIfInBounds_toArray, List.set_cons_zero, List.set_cons_succ])
              refine wpAnyH_done (by kernel_rfl) ?_ _
              go_wp2_with fail
              go_meet
              exact ⟨rfl, rfl, SD.sub (L' := [.blk w.heap.size 3 #[.int .i64 0, .int .i64 1, .int .i64 1, .int .i64 1], .blk w2.heap.size 24 #[.int .i64 2, .int .i64 2, .slice (some ⟨w.heap.size, 0, none⟩) 4 4], .blk (w2.heap.size + 1) 3 #[.int .i64 0, .int .i64 1]]) (by simp)⟩
            · go_simp
              have hz3 := size_alloc1 wz2 (.cells #[.int .i64 0, .int .i64 0] 3)
              replace SD := SD.box #[.int .i64 0, .int .i64 0] 3
              simp only [List.nil_append, List.cons_append] at SD
              rw [hz2] at hz3
              simp only [hz2] at SD
              generalize wz2.alloc (.cells #[.int .i64 0, .int .i64 0] 3) = wz3 at *
              refine hK.out _ _ ?_ (fun hHeld => ?_)
              · (try dsimp only); exact (SD.blk 1 rfl).cell3
              clear hK K
              (try simp only [Act.put, List.setIfInBounds_toArray, List.set_cons_zero, List.set_cons_succ])
              refine man_run 0 rfl (by kernel_rfl) (fun K hK => ?_)
              go_simp
              refine (KZ22.out _).mono ?_
              rintro e wz0 ⟨B0, m0, k0, rfl, hown0, hb0⟩
              have hs0 := hb0.size
              have hw0 := SD.size
              replace SD := SD.keep hb0
              try simp only at hown0 ⊢
              have ho0 := own_base hown0 hw0
              clear hown0
              go_wp2_with fail
              refine hK.out _ _ ?_ (fun hHeld => ?_)
              · (try dsimp only); exact (SD.blk 1 rfl).cell3
              clear hK K
              (try simp only [Act.put, List.setIfInBounds_toArray, List.set_cons_zero, List.set_cons_succ])
              refine man_run 4 rfl (by kernel_rfl) (fun K hK => ?_)
              go_simp
              refine (KSi.out _ _ _ _ _ _ _ _ _ _ _ _ _ (rd_of_own ho0) (rd_of_blk (SD.blk 0 rfl)) (rd_of_blk (SD.blk 3 rfl)) (rd_of_blk (SD.blk 4 rfl))).mono ?_
              rintro e wz4 ⟨rfl, hb4⟩
              have hs4 := hb4.size
              have hw4 := SD.size
              replace SD := SD.keep hb4
              replace ho0 := own_below ho0 hb4
              go_wp2_with fail
              refine hK.out _ _ ?_ (fun hHeld => ?_)
              · (try dsimp only); exact (SD.blk 1 rfl).cell3
              clear hK K
              (try simp only [Act.put, List.setIfInBounds_toArray, List.set_cons_zero, List.set_cons_succ])
              refine man_take 5 108 (v := ?_) ⟨_, rfl, rfl⟩ (by kernel_rfl) (by kernel_rfl) (by kernel_rfl) (fun _ _ _ h => h) (by assumption) ?_ ?_
              rotate_left
              · intro oi ho; cases ho; refine ⟨by rfl, ?_⟩; intro w hSw; (try dsimp only at hSw); go_simp; try with_reducible rfl
              (try simp only [Act.put, List.setIfInBounds_toArray, List.set_cons_zero, List.set_cons_succ])
              refine man_take 6 114 (v := ?_) ⟨_, rfl, rfl⟩ (by kernel_rfl) (by kernel_rfl) (by kernel_rfl) (fun _ _ _ h => h) (by assumption) ?_ ?_
              rotate_left
              · intro oi ho; cases ho; refine ⟨by rfl, ?_⟩; intro w hSw; (try dsimp only at hSw); go_simp; try with_reducible rfl
              (try simp only [Act.put, List.setIfInBounds_toArray, List.set_cons_zero, List.set_cons_succ])
              refine man_take 7 115 (v := ?_) ⟨_, rfl, rfl⟩ (by kernel_rfl) (by kernel_rfl) (by kernel_rfl) (fun _ _ _ h => h) (by assumption) ?_ ?_
              rotate_left
              · intro oi ho; cases ho; refine ⟨by rfl, ?_⟩; intro w hSw; (try dsimp only at hSw); go_simp; try with_reducible rfl
              (try simp only [Act.put, List.setIfInBounds_toArray, List.set_cons_zero, List.set_cons_succ])
              refine man_take 8 23 (v := ?_) ⟨_, rfl, rfl⟩ (by kernel_rfl) (by kernel_rfl) (by kernel_rfl) (fun _ _ _ h => h) (by assumption) ?_ ?_
              rotate_left
              · intro oi ho; cases ho; refine ⟨by rfl, ?_⟩; intro w hSw; (try dsimp only at hSw); go_simp; try with_reducible rfl
              (try simp only [Act.put, List.setIfInBounds_toArray, List.set_cons_zero, List.set_cons_succ])
              refine man_take 9 24 (v := ?_) ⟨_, rfl, rfl⟩ (by kernel_rfl) (by kernel_rfl) (by kernel_rfl) (fun _ _ _ h => h) (by assumption) ?_ ?_
              rotate_left
              · intro oi ho; cases ho; refine ⟨by rfl, ?_⟩; intro w hSw; (try dsimp only at hSw); go_simp; try with_reducible rfl
              (try simp only [Act.put, List.setIfInBounds_toArray, List.set_cons_zero, List.set_cons_succ])
              refine wpAnyH_done (by kernel_rfl) ?_ _
              go_wp2_with fail
              go_meet
              exact ⟨rfl, rfl, SD.sub (L' := [.blk w.heap.size 3 #[.int .i64 0, .int .i64 1, .int .i64 1, .int .i64 1], .blk w2.heap.size 24 #[.int .i64 2, .int .i64 2, .slice (some ⟨w.heap.size, 0, none⟩) 4 4], .blk (w2.heap.size + 1) 3 #[.int .i64 0, .int .i64 1]]) (by simp)⟩
          · go_simp
            have hz3 := size_alloc1 wd (.cells #[.int .i64 0, .int .i64 0] 3)
            replace SD := SD.box #[.int .i64 0, .int .i64 0] 3
            simp only [List.nil_append, List.cons_append] at SD
            generalize wd.alloc (.cells #[.int .i64 0, .int .i64 0] 3) = wz3 at *
            refine hK.out _ _ ?_ (fun hHeld => ?_)
            · (try dsimp only); exact (SD.blk 1 rfl).cell3
            clear hK K
            (try simp only [Act.put, List.setIfInBounds_toArray, List.set_cons_zero, List.set_cons_succ])
            refine man_two 0 2 rfl rfl (by kernel_rfl) (fun K hK => ?_) (fun K hK => ?_)
            · go_simp
              refine (KZ22.out _).mono ?_
              rintro e wz0 ⟨B0, m0, k0, rfl, hown0, hb0⟩
              have hs0 := hb0.size
              have hw0 := SD.size
              replace SD := SD.keep hb0
              try simp only at hown0 ⊢
              have ho0 := own_base hown0 hw0
              clear hown0
              go_wp2_with fail
              refine hK.out _ _ ?_ (fun hHeld => ?_)
              · (try dsimp only); exact (SD.blk 1 rfl).cell3
              clear hK K
              (try simp only [Act.put, List.setIfInBounds_toArray, List.set_cons_zero, List.set_cons_succ])
              refine man_run 2 rfl (by kernel_rfl) (fun K hK => ?_)
              go_simp
              have hz2 := size_alloc1 wz0 (.cells #[.int .i64 0, .int .i64 0] 3)
              replace SD := SD.box #[.int .i64 0, .int .i64 0] 3
              simp only [List.nil_append, List.cons_append] at SD
              replace ho0 := ho0.alloc (.cells #[.int .i64 0, .int .i64 0] 3)
              generalize wz0.alloc (.cells #[.int .i64 0, .int .i64 0] 3) = wz2 at *
              refine hK.out _ _ ?_ (fun hHeld => ?_)
              · (try dsimp only); exact (SD.blk 1 rfl).cell3
              clear hK K
              (try simp only [Act.put, List.setIfInBounds_toArray, List.set_cons_zero, List.set_cons_succ])
              refine man_run 4 rfl (by kernel_rfl) (fun K hK => ?_)
              go_simp
              refine (KSi.out _ _ _ _ _ _ _ _ _ _ _ _ _ (rd_of_own ho0) (rd_of_blk (SD.blk 0 rfl)) (rd_of_blk (SD.blk 4 rfl)) (rd_of_blk (SD.blk 3 rfl))).mono ?_
              rintro e wz4 ⟨rfl, hb4⟩
              have hs4 := hb4.size
              have hw4 := SD.size
              replace SD := SD.keep hb4
              replace ho0 := own_below ho0 hb4
              go_wp2_with fail
              refine hK.out _ _ ?_ (fun hHeld => ?_)
              · (try dsimp only); exact (SD.blk 1 rfl).cell3
              clear hK K
              (try simp only [Act.put, List.setIfInBounds_toArray, List.set_cons_zero, List.set_cons_succ])
              refine man_take 5 108 (v := ?_) ⟨_, rfl, rfl⟩ (by kernel_rfl) (by kernel_rfl) (by kernel_rfl) (fun _ _ _ h => h) (by assumption) ?_ ?_
              rotate_left
              · intro oi ho; cases ho; refine ⟨by rfl, ?_⟩; intro w hSw; (try dsimp only at hSw); go_simp; try with_reducible rfl
              (try simp only [Act.put, List.setIfInBounds_toArray, List.set_cons_zero, List.set_cons_succ])
              refine man_take 6 114 (v := ?_) ⟨_, rfl, rfl⟩ (by kernel_rfl) (by kernel_rfl) (by kernel_rfl) (fun _ _ _ h => h) (by assumption) ?_ ?_
              rotate_left
              · intro oi ho; cases ho; refine ⟨by rfl, ?_⟩; intro w hSw; (try dsimp only at hSw); go_simp; try with_reducible rfl
              (try simp only [Act.put, List.setIfInBounds_toArray, List.set_cons_zero, List.set_cons_succ])
              refine man_take 7 115 (v := ?_) ⟨_, rfl, rfl⟩ (by kernel_rfl) (by kernel_rfl) (by kernel_rfl) (fun _ _ _ h => h) (by assumption) ?_ ?_
              rotate_left
              · intro oi ho; cases ho; refine ⟨by rfl, ?_⟩; intro w hSw; (try dsimp only at hSw); go_simp; try with_reducible rfl
              (try simp only [Act.put, List.setIfInBounds_toArray, List.set_cons_zero, List.set_cons_succ])
              refine man_take 8 23 (v := ?_) ⟨_, rfl, rfl⟩ (by kernel_rfl) (by kernel_rfl) (by kernel_rfl) (fun _ _ _ h => h) (by assumption) ?_ ?_
              rotate_left
              · intro oi ho; cases ho; refine ⟨by rfl, ?_⟩; intro w hSw; (try dsimp only at hSw); go_simp; try with_reducible rfl
              (try simp only [Act.put, List.setIfInBounds_toArray, List.set_cons_zero, List.set_cons_succ])
              refine man_take 9 24 (v := ?_) ⟨_, rfl, rfl⟩ (by kernel_rfl) (by kernel_rfl) (by kernel_rfl) (fun _ _ _ h => h) (by assumption) ?_ ?_
              rotate_left
              · intro oi ho; cases ho; refine ⟨by rfl, ?_⟩; intro w hSw; (try dsimp only at hSw); go_simp; try with_reducible rfl
              (try simp only [Act.put, List.setIfInBounds_toArray, List.set_cons_zero, List.set_cons_succ])
              refine wpAnyH_done (by kernel_rfl) ?_ _
              go_wp2_with fail
              go_meet
              exact ⟨rfl, rfl, SD.sub (L' := [.blk w.heap.size 3 #[.int .i64 0, .int .i64 1, .int .i64 1, .int .i64 1], .blk w2.heap.size 24 #[.int .i64 2, .int .i64 2, .slice (some ⟨w.heap.size, 0, none⟩) 4 4], .blk (w2.heap.size + 1) 3 #[.int .i64 0, .int .i64 1]]) (by simp)⟩
            · go_simp
              have hz2 := size_alloc1 wz3 (.cells #[.int .i64 0, .int .i64 0] 3)
              replace SD := SD.box #[.int .i64 0, .int .i64 0] 3
              simp only [List.nil_append, List.cons_append] at SD
              rw [hz3] at hz2
              simp only [hz3] at SD
              generalize wz3.alloc (.cells #[.int .i64 0, .int .i64 0] 3) = wz2 at *
              refine hK.out _ _ ?_ (fun hHeld => ?_)
              · (try dsimp only); exact (SD.blk 1 rfl).cell3
              clear hK K
              (try simp only [Act.put, List.setIfInBounds_toArray, List.set_cons_zero, List.set_cons_succ])
              refine man_run 0 rfl (by kernel_rfl) (fun K hK => ?_)
              go_simp
              refine (KZ22.out _).mono ?_
              rintro e wz0 ⟨B0, m0, k0, rfl, hown0, hb0⟩
              have hs0 := hb0.size
              have hw0 := SD.size
              replace SD := SD.keep hb0
              try simp only at hown0 ⊢
              have ho0 := own_base hown0 hw0
              clear hown0
              go_wp2_with fail
              refine hK.out _ _ ?_ (fun hHeld => ?_)
              · (try dsimp only); exact (SD.blk 1 rfl).cell3
              clear hK K
              (try simp only [Act.put, List.setIfInBounds_toArray, List.set_cons_zero, List.set_cons_succ])
              refine man_run 4 rfl (by kernel_rfl) (fun K hK => ?_)
              go_simp
              refine (KSi.out _ _ _ _ _ _ _ _ _ _ _ _ _ (rd_of_own ho0) (rd_of_blk (SD.blk 0 rfl)) (rd_of_blk (SD.blk 4 rfl)) (rd_of_blk (SD.blk 3 rfl))).mono ?_
              rintro e wz4 ⟨rfl, hb4⟩
              have hs4 := hb4.size
              have hw4 := SD.size
              replace SD := SD.keep hb4
              replace ho0 := own_below ho0 hb4
              go_wp2_with fail
              refine hK.out _ _ ?_ (fun hHeld => ?_)
              · (try dsimp only); exact (SD.blk 1 rfl).cell3
              clear hK K
              (try simp only [Act.put, List.setIfInBounds_toArray, List.set_cons_zero, List.set_cons_succ])
              refine man_take 5 108 (v := ?_) ⟨_, rfl, rfl⟩ (by kernel_rfl) (by kernel_rfl) (by kernel_rfl) (fun _ _ _ h => h) (by assumption) ?_ ?_
              rotate_left
              · intro oi ho; cases ho; refine ⟨by rfl, ?_⟩; intro w hSw; (try dsimp only at hSw); go_simp; try with_reducible rfl
              (try simp only [Act.put, List.setIfInBounds_toArray, List.set_cons_zero, List.set_cons_succ])
              refine man_take 6 114 (v := ?_) ⟨_, rfl, rfl⟩ (by kernel_rfl) (by kernel_rfl) (by kernel_rfl) (fun _ _ _ h => h) (by assumption) ?_ ?_
              rotate_left
              · intro oi ho; cases ho; refine ⟨by rfl, ?_⟩; intro w hSw; (try dsimp only at hSw); go_simp; try with_reducible rfl
              (try simp only [Act.put, List.setIfInBounds_toArray, List.set_cons_zero, List.set_cons_succ])
              refine man_take 7 115 (v := ?_) ⟨_, rfl, rfl⟩ (by kernel_rfl) (by kernel_rfl) (by kernel_rfl) (fun _ _ _ h => h) (by assumption) ?_ ?_
              rotate_left
              · intro oi ho; cases ho; refine ⟨by rfl, ?_⟩; intro w hSw; (try dsimp only at hSw); go_simp; try with_reducible rfl
              (try simp only [Act.put, List.setIfInBounds_toArray, List.set_cons_zero, List.set_cons_succ])
              refine man_take 8 23 (v := ?_) ⟨_, rfl, rfl⟩ (by kernel_rfl) (by kernel_rfl) (by kernel_rfl) (fun _ _ _ h => h) (by assumption) ?_ ?_
              rotate_left
              · intro oi ho; cases ho; refine ⟨by rfl, ?_⟩; intro w hSw; (try dsimp only at hSw); go_simp; try with_reducible rfl
              (try simp only [Act.put, List.setIfInBounds_toArray, List.set_cons_zero, List.set_cons_succ])
              refine man_take 9 24 (v := ?_) ⟨_, rfl, rfl⟩ (by kernel_rfl) (by kernel_rfl) (by kernel_rfl) (fun _ _ _ h => h) (by assumption) ?_ ?_
              rotate_left
              · intro oi ho; cases ho; refine ⟨by rfl, ?_⟩; intro w hSw; (try dsimp only at hSw); go_simp; try with_reducible rfl
              (try simp only [Act.put, List.setIfInBounds_toArray, List.set_cons_zero, List.set_cons_succ])
              refine wpAnyH_done (by kernel_rfl) ?_ _
              go_wp2_with fail
              go_meet
              exact ⟨rfl, rfl, SD.sub (L' := [.blk w.heap.size 3 #[.int .i64 0, .int .i64 1, .int .i64 1, .int .i64 1], .blk w2.heap.size 24 #[.int .i64 2, .int .i64 2, .slice (some ⟨w.heap.size, 0, none⟩) 4 4], .blk (w2.heap.size + 1) 3 #[.int .i64 0, .int .i64 1]]) (by simp)⟩
        case rest =>
          as_aux_lemma =>
          obtain ⟨rfl, rfl, SZ⟩ := hcut
          have SR11 := SW.keep SZ.below
          clear SW SB
          have ST := SR11.sub (L' := [.blk w.heap.size 3 #[.int .i64 0, .int .i64 1, .int .i64 1, .int .i64 1], .blk w2.heap.size 24 #[.int .i64 2, .int .i64 2, .slice (some ⟨w.heap.size, 0, none⟩) 4 4], .blk (w2.heap.size + 1) 3 #[.int .i64 0, .int .i64 1]]) (by simp)
          clear SR11
          go_wp2_with fail
          refine (KF0.out _).mono ?_
          rintro e w15 ⟨A15, B15, ca15, cb15, rfl, hb15⟩
          have S15 := ST.keep hb15
          clear ST
          as_aux_lemma =>
          go_wp2_with fail
          refine (KX0.out _).mono ?_
          rintro e w16 ⟨A16, B16, ca16, cb16, rfl, hb16⟩
          have S16 := S15.keep hb16
          clear S15
          go_wp2_with fail
          refine (KQ.out _).mono ?_
          rintro e w17 ⟨A17, n17, cc17, rfl, hown17, hb17⟩
          simp only at hown17 ⊢
          have S17 := ((S16.keep hb17).addRd (rd_of_own hown17))
          simp only [List.nil_append, List.cons_append] at S17
          clear S16 hown17
          go_wp2_with fail
          refine (KXQ.out _ _ _ _ (S17.rd 3 rfl)).mono ?_
          rintro e w18 ⟨A18, B18, ca18, cb18, rfl, hb18⟩
          have S18 := S17.keep hb18
          clear S17
          have S19 := (S18.box #[.int .i64 7] 3).addRd (n := 1) (xs := ([7] : List Int).map (Value.int .i64)) (rd_of_blk (Blk.new _ 3 #[.int .i64 7]))
          simp only [List.nil_append, List.cons_append] at S19
          clear S18
          have S20 := S19.box #[.int .i64 1, .int .i64 1, .slice (some ⟨w18.heap.size, 0, none⟩) 1 1] 24
          simp only [size_alloc1, List.nil_append, List.cons_append] at S20
          clear S19
          obtain ⟨ca0, ca1, ca2⟩ := (S20.blk 6 rfl).cell3
          go_wp2_with fail
          refine (KF1.out _ _ _ (S20.rd 5 rfl)).mono ?_
          rintro e w21 ⟨A21, B21, ca21, cb21, rfl, hx21, hy21, hb21⟩
          have S21 := ((S20.keep hb21).addRd hx21).addRd hy21
          simp only [List.nil_append, List.cons_append] at S21
          clear ca0 ca1 ca2 S20 hx21 hy21
          obtain ⟨ca0, ca1, ca2⟩ := (S21.blk 6 rfl).cell3
          go_wp2_with fail
          refine (KX1.out _ _ _ (S21.rd 5 rfl)).mono ?_
          rintro e w22 ⟨b1, o1, b2, o2, f1, f2, E1, E2, d1, d2, rfl, hx22, hy22, hb22⟩
          have S22 := ((S21.keep hb22).addRd hx22).addRd hy22
          simp only [List.nil_append, List.cons_append] at S22
          clear ca0 ca1 ca2 S21 hx22 hy22
          as_aux_lemma =>
          go_upto_region 18 with fail
          obtain ⟨wR18, hwR18⟩ := St.world S22
          have SW := S22
          rw [← hwR18] at SW ⊢
          clear hwR18 S22
          have SB : St wR18 [.blk w.heap.size 3 #[.int .i64 0, .int .i64 1, .int .i64 1, .int .i64 1], .blk w2.heap.size 24 #[.int .i64 2, .int .i64 2, .slice (some ⟨w.heap.size, 0, none⟩) 4 4], .blk (w2.heap.size + 1) 3 #[.int .i64 0, .int .i64 1]] wR18 := (show St wR18 [.blk w.heap.size 3 #[.int .i64 0, .int .i64 1, .int .i64 1, .int .i64 1], .blk w2.heap.size 24 #[.int .i64 2, .int .i64 2, .slice (some ⟨w.heap.size, 0, none⟩) 4 4], .blk (w2.heap.size + 1) 3 #[.int .i64 0, .int .i64 1]] wR18 from ⟨Below.refl _ _, (SW.sub (L' := [.blk w.heap.size 3 #[.int .i64 0, .int .i64 1, .int .i64 1, .int .i64 1], .blk w2.heap.size 24 #[.int .i64 2, .int .i64 2, .slice (some ⟨w.heap.size, 0, none⟩) 4 4], .blk (w2.heap.size + 1) 3 #[.int .i64 0, .int .i64 1]]) (by simp)).2⟩)
          go_cut [41, 42] (fun s41 s42 wx => ∃ (g n : Nat) (B : Option Addr) (c : Nat), s41 = .pointer (some ⟨g, 0, none⟩) ∧ s42 = .int .i64 0 ∧ Blk wx g 40 #[.int .i64 2, .int .i64 2, .slice B n c] ∧ Rd wx B n (wvX.bits.map Value.bool) ∧ St wR18 [.blk w.heap.size 3 #[.int .i64 0, .int .i64 1, .int .i64 1, .int .i64 1], .blk w2.heap.size 24 #[.int .i64 2, .int .i64 2, .slice (some ⟨w.heap.size, 0, none⟩) 4 4], .blk (w2.heap.size + 1) 3 #[.int .i64 0, .int .i64 1]] wx)
          case first =>
            as_aux_lemma =>
              clear SW KI KQ KA KCa KF0 KX0 KZ21 KZ22 KZ32 KCb KCc KCd KWe KWf KWg KSh KSi KF1 KX1 KXQ KL0 KL7 KSW
              have hx0 := (SB.blk 0 rfl).lt
              have hx1 := (SB.blk 1 rfl).lt
              have hx2 := (SB.blk 2 rfl).lt
              refine wp_region_invL 12 [some 149, some 150, some 151, some 152, some 153, some 154, some 148, some 155, some 156, some 41, none, some 42] (IN18 w w2 wR18) (by kernel_rfl) rfl rfl (by decide) (by kernel_rfl) (fun xs hx => ?_) (fun i hi => ?_) (fun xs wf hx hG => ?_)
              · obtain ⟨x0, x1, x2, x3, x4, x5, x6, x7, x8, x9, x10, x11, rfl⟩ := IN18_v xs hx
                show IN18 w w2 wR18 [false, false, false, false, false, false, false, false, false, false, false, false] [x0, x1, x2, x3, x4, x5, x6, x7, x8, x9, x10, x11] _
                exact IN18_mk w w2 wR18 ⟨SB.drew, (fun g1 => by cases g1), (fun g1 => by cases g1), (fun g1 => by cases g1), (fun g1 => by cases g1), (fun g1 => by cases g1), (fun g1 => by cases g1), (fun g1 => by cases g1), (fun g1 => by cases g1), (fun g1 => by cases g1), (fun g1 => by cases g1), (fun g1 => by cases g1), (fun g1 => by cases g1)⟩
              · match i, hi with
                | 0, _ =>
                  intro o ho l xs w1 hl hx hG hi hdep K hK
                  obtain rfl := Option.some.inj (ho.symm.trans rfl)
                  clear ho
                  obtain ⟨l0, l1, l2, l3, l4, l5, l6, l7, l8, l9, l10, l11, rfl⟩ := IN18_b l hl
                  obtain ⟨x0, x1, x2, x3, x4, x5, x6, x7, x8, x9, x10, x11, rfl⟩ := IN18_v xs hx
                  obtain rfl : l0 = false := hi
                  clear hdep hl hx
                  dsimp only [setAll, List.set_cons_zero, List.set_cons_succ] at hK ⊢
                  have hf := IN18_get w w2 wR18 hG
                  obtain ⟨q0, q1, q2⟩ := (hf.1.blk 1 rfl).cell3
                  clear hf
                  go_simp
                  refine hK.out _ _ ?_
                  clear hK K
                  obtain ⟨SD, h0, h1, h2, h3, h4, h5, h6, h7, h8, h9, h10, h11⟩ := IN18_get w w2 wR18 hG
                  exact IN18_mk w w2 wR18 ⟨SD, (fun g1 => rfl), h1, h2, h3, h4, h5, h6, h7, h8, h9, h10, h11⟩
                | 1, _ =>
                  intro o ho l xs w1 hl hx hG hi hdep K hK
                  obtain rfl := Option.some.inj (ho.symm.trans rfl)
                  clear ho
                  obtain ⟨l0, l1, l2, l3, l4, l5, l6, l7, l8, l9, l10, l11, rfl⟩ := IN18_b l hl
                  obtain ⟨x0, x1, x2, x3, x4, x5, x6, x7, x8, x9, x10, x11, rfl⟩ := IN18_v xs hx
                  obtain rfl : l1 = false := hi
                  clear hdep hl hx
                  dsimp only [setAll, List.set_cons_zero, List.set_cons_succ] at hK ⊢
                  go_simp
                  refine hK.out _ _ ?_
                  clear hK K
                  obtain ⟨SD, h0, h1, h2, h3, h4, h5, h6, h7, h8, h9, h10, h11⟩ := IN18_get w w2 wR18 hG
                  exact IN18_mk w w2 wR18 ⟨SD, h0, (fun g1 => rfl), h2, h3, h4, h5, h6, h7, h8, h9, h10, h11⟩
                | 2, _ =>
                  intro o ho l xs w1 hl hx hG hi hdep K hK
                  obtain rfl := Option.some.inj (ho.symm.trans rfl)
                  clear ho
                  obtain ⟨l0, l1, l2, l3, l4, l5, l6, l7, l8, l9, l10, l11, rfl⟩ := IN18_b l hl
                  obtain ⟨x0, x1, x2, x3, x4, x5, x6, x7, x8, x9, x10, x11, rfl⟩ := IN18_v xs hx
                  obtain rfl : l2 = false := hi
                  clear hdep hl hx
                  dsimp only [setAll, List.set_cons_zero, List.set_cons_succ] at hK ⊢
                  go_simp
                  refine hK.out _ _ ?_
                  clear hK K
                  obtain ⟨SD, h0, h1, h2, h3, h4, h5, h6, h7, h8, h9, h10, h11⟩ := IN18_get w w2 wR18 hG
                  have hb := fun ob => (Below.refl w1.heap.size w1).alloc (Nat.le_refl _) ob
                  exact IN18_mk w w2 wR18 ⟨SD.keep (hb _), h0, h1, (fun g1 g2 => ⟨_, rfl, rd_of_blk (Blk.new _ _ _)⟩), (fun g1 g2 => by obtain ⟨b, e, r⟩ := h3 g1 g2; exact ⟨b, e, r.below (hb _)⟩), (fun g1 g2 => by obtain ⟨b, e, r⟩ := h4 g1 g2; exact ⟨b, e, r.below (hb _)⟩), (fun g1 => by obtain ⟨n, P, c, e, r⟩ := h5 g1; exact ⟨n, P, c, e, r.below (hb _)⟩), (fun g1 => by obtain ⟨n, P, c, e, r⟩ := h6 g1; exact ⟨n, P, c, e, r.below (hb _)⟩), (fun g1 => by obtain ⟨n, P, c, e, r⟩ := h7 g1; exact ⟨n, P, c, e, r.below (hb _)⟩), h8, (fun g1 => by obtain ⟨b, e, r⟩ := h9 g1; exact ⟨b, e, fun g3 => ⟨(r g3).1, (r g3).2.keep (hb _)⟩⟩), (fun g1 => by obtain ⟨hl, g, n, P, c, e, hg, r⟩ := h10 g1; exact ⟨hl, g, n, P, c, e, hg.keep (hb _), r.below (hb _)⟩), h11⟩
                | 3, _ =>
                  intro o ho l xs w1 hl hx hG hi hdep K hK
                  obtain rfl := Option.some.inj (ho.symm.trans rfl)
                  clear ho
                  obtain ⟨l0, l1, l2, l3, l4, l5, l6, l7, l8, l9, l10, l11, rfl⟩ := IN18_b l hl
                  obtain ⟨x0, x1, x2, x3, x4, x5, x6, x7, x8, x9, x10, x11, rfl⟩ := IN18_v xs hx
                  obtain rfl : l3 = false := hi
                  clear hdep hl hx
                  dsimp only [setAll, List.set_cons_zero, List.set_cons_succ] at hK ⊢
                  go_simp
                  refine hK.out _ _ ?_
                  clear hK K
                  obtain ⟨SD, h0, h1, h2, h3, h4, h5, h6, h7, h8, h9, h10, h11⟩ := IN18_get w w2 wR18 hG
                  have hb := fun ob => (Below.refl w1.heap.size w1).alloc (Nat.le_refl _) ob
                  exact IN18_mk w w2 wR18 ⟨SD.keep (hb _), h0, h1, (fun g1 g2 => by obtain ⟨b, e, r⟩ := h2 g1 g2; exact ⟨b, e, r.below (hb _)⟩), (fun g1 g2 => ⟨_, rfl, rd_of_blk (Blk.new _ _ _)⟩), (fun g1 g2 => by obtain ⟨b, e, r⟩ := h4 g1 g2; exact ⟨b, e, r.below (hb _)⟩), (fun g1 => by obtain ⟨n, P, c, e, r⟩ := h5 g1; exact ⟨n, P, c, e, r.below (hb _)⟩), (fun g1 => by obtain ⟨n, P, c, e, r⟩ := h6 g1; exact ⟨n, P, c, e, r.below (hb _)⟩), (fun g1 => by obtain ⟨n, P, c, e, r⟩ := h7 g1; exact ⟨n, P, c, e, r.below (hb _)⟩), h8, (fun g1 => by obtain ⟨b, e, r⟩ := h9 g1; exact ⟨b, e, fun g3 => ⟨(r g3).1, (r g3).2.keep (hb _)⟩⟩), (fun g1 => by obtain ⟨hl, g, n, P, c, e, hg, r⟩ := h10 g1; exact ⟨hl, g, n, P, c, e, hg.keep (hb _), r.below (hb _)⟩), h11⟩
                | 4, _ =>
                  intro o ho l xs w1 hl hx hG hi hdep K hK
                  obtain rfl := Option.some.inj (ho.symm.trans rfl)
                  clear ho
                  obtain ⟨l0, l1, l2, l3, l4, l5, l6, l7, l8, l9, l10, l11, rfl⟩ := IN18_b l hl
                  obtain ⟨x0, x1, x2, x3, x4, x5, x6, x7, x8, x9, x10, x11, rfl⟩ := IN18_v xs hx
                  obtain rfl : l4 = false := hi
                  obtain rfl : l3 = true := hdep 3 (by kernel_rfl)
                  clear hdep hl hx
                  dsimp only [setAll, List.set_cons_zero, List.set_cons_succ] at hK ⊢
                  have hf := IN18_get w w2 wR18 hG
                  obtain ⟨b3, rfl, r3⟩ := (hf.2.2.2.2.1 rfl rfl)
                  clear hf
                  go_simp
                  refine (KG.out _ _ _ _).mono ?_
                  rintro e wz ⟨rfl, hbz⟩
                  go_wp2_with fail
                  refine hK.out _ _ ?_
                  clear hK K
                  obtain ⟨SD, h0, h1, h2, h3, h4, h5, h6, h7, h8, h9, h10, h11⟩ := IN18_get w w2 wR18 hG
                  have hb := hbz
                  exact IN18_mk w w2 wR18 ⟨SD.keep hb, h0, h1, (fun g1 g2 => by obtain ⟨b, e, r⟩ := h2 g1 g2; exact ⟨b, e, r.below hb⟩), (fun _ g2 => by cases g2), (fun g1 g2 => ⟨_, rfl, r3.below hb⟩), (fun g1 => by obtain ⟨n, P, c, e, r⟩ := h5 g1; exact ⟨n, P, c, e, r.below hb⟩), (fun g1 => by obtain ⟨n, P, c, e, r⟩ := h6 g1; exact ⟨n, P, c, e, r.below hb⟩), (fun g1 => by obtain ⟨n, P, c, e, r⟩ := h7 g1; exact ⟨n, P, c, e, r.below hb⟩), h8, (fun g1 => by obtain ⟨b, e, r⟩ := h9 g1; exact ⟨b, e, fun g3 => ⟨(r g3).1, (r g3).2.keep hb⟩⟩), (fun g1 => by obtain ⟨hl, g, n, P, c, e, hg, r⟩ := h10 g1; exact ⟨hl, g, n, P, c, e, hg.keep hb, r.below hb⟩), h11⟩
                | 5, _ =>
                  intro o ho l xs w1 hl hx hG hi hdep K hK
                  obtain rfl := Option.some.inj (ho.symm.trans rfl)
                  clear ho
                  obtain ⟨l0, l1, l2, l3, l4, l5, l6, l7, l8, l9, l10, l11, rfl⟩ := IN18_b l hl
                  obtain ⟨x0, x1, x2, x3, x4, x5, x6, x7, x8, x9, x10, x11, rfl⟩ := IN18_v xs hx
                  obtain rfl : l5 = false := hi
                  obtain rfl : l0 = true := hdep 0 (by kernel_rfl)
                  obtain rfl : l1 = true := hdep 1 (by kernel_rfl)
                  obtain rfl : l2 = true := hdep 2 (by kernel_rfl)
                  obtain rfl : l4 = true := hdep 4 (by kernel_rfl)
                  clear hdep hl hx
                  dsimp only [setAll, List.set_cons_zero, List.set_cons_succ] at hK ⊢
                  have hf := IN18_get w w2 wR18 hG
                  have SD := hf.1
                  obtain rfl := (hf.2.1 rfl)
                  obtain rfl := (hf.2.2.1 rfl)
                  obtain ⟨b2, rfl, r2⟩ := (hf.2.2.2.1 rfl rfl)
                  obtain ⟨b4, rfl, r4⟩ := (hf.2.2.2.2.2.1 rfl rfl)
                  clear hf
                  go_simp
                  refine (KWp.out _ _ _ _ _ _ _ _ _ _ _ _ _ (rd_of_blk (SD.blk 0 rfl)) (rd_of_blk (SD.blk 2 rfl)) r2 r4).mono ?_
                  rintro e wz ⟨P, n, c, rfl, hown, hbz⟩
                  simp only at hown ⊢
                  go_wp2_with fail
                  refine hK.out _ _ ?_
                  clear hK K
                  obtain ⟨SD, h0, h1, h2, h3, h4, h5, h6, h7, h8, h9, h10, h11⟩ := IN18_get w w2 wR18 hG
                  have hb := hbz
                  exact IN18_mk w w2 wR18 ⟨SD.keep hb, h0, h1, (fun _ g2 => by cases g2), (fun _ g2 => by cases g2), (fun _ g2 => by cases g2), (fun g1 => ⟨_, _, _, rfl, rd_of_own hown⟩), (fun g1 => by obtain ⟨n, P, c, e, r⟩ := h6 g1; exact ⟨n, P, c, e, r.below hb⟩), (fun g1 => by obtain ⟨n, P, c, e, r⟩ := h7 g1; exact ⟨n, P, c, e, r.below hb⟩), h8, (fun g1 => by obtain ⟨b, e, r⟩ := h9 g1; exact ⟨b, e, fun g3 => ⟨(r g3).1, (r g3).2.keep hb⟩⟩), (fun g1 => by obtain ⟨hl, g, n, P, c, e, hg, r⟩ := h10 g1; exact ⟨hl, g, n, P, c, e, hg.keep hb, r.below hb⟩), h11⟩
                | 6, _ =>
                  intro o ho l xs w1 hl hx hG hi hdep K hK
                  obtain rfl := Option.some.inj (ho.symm.trans rfl)
                  clear ho
                  obtain ⟨l0, l1, l2, l3, l4, l5, l6, l7, l8, l9, l10, l11, rfl⟩ := IN18_b l hl
                  obtain ⟨x0, x1, x2, x3, x4, x5, x6, x7, x8, x9, x10, x11, rfl⟩ := IN18_v xs hx
                  obtain rfl : l6 = false := hi
                  obtain rfl : l5 = true := hdep 5 (by kernel_rfl)
                  clear hdep hl hx
                  dsimp only [setAll, List.set_cons_zero, List.set_cons_succ] at hK ⊢
                  have hf := IN18_get w w2 wR18 hG
                  obtain ⟨n, P, c, rfl, r5⟩ := (hf.2.2.2.2.2.2.1 rfl)
                  clear hf
                  go_simp
                  refine hK.out _ _ ?_
                  clear hK K
                  obtain ⟨SD, h0, h1, h2, h3, h4, h5, h6, h7, h8, h9, h10, h11⟩ := IN18_get w w2 wR18 hG
                  exact IN18_mk w w2 wR18 ⟨SD, h0, h1, (fun _ g2 => by cases g2), h3, (fun _ g2 => by cases g2), h5, (fun g1 => ⟨_, _, _, rfl, r5⟩), h7, h8, h9, h10, h11⟩
                | 7, _ =>
                  intro o ho l xs w1 hl hx hG hi hdep K hK
                  obtain rfl := Option.some.inj (ho.symm.trans rfl)
                  clear ho
                  obtain ⟨l0, l1, l2, l3, l4, l5, l6, l7, l8, l9, l10, l11, rfl⟩ := IN18_b l hl
                  obtain ⟨x0, x1, x2, x3, x4, x5, x6, x7, x8, x9, x10, x11, rfl⟩ := IN18_v xs hx
                  obtain rfl : l7 = false := hi
                  obtain rfl : l6 = true := hdep 6 (by kernel_rfl)
                  clear hdep hl hx
                  dsimp only [setAll, List.set_cons_zero, List.set_cons_succ] at hK ⊢
                  have hf := IN18_get w w2 wR18 hG
                  obtain ⟨n, P, c, rfl, r6⟩ := (hf.2.2.2.2.2.2.2.1 rfl)
                  clear hf
                  go_simp
                  refine hK.out _ _ ?_
                  clear hK K
                  obtain ⟨SD, h0, h1, h2, h3, h4, h5, h6, h7, h8, h9, h10, h11⟩ := IN18_get w w2 wR18 hG
                  exact IN18_mk w w2 wR18 ⟨SD, h0, h1, h2, h3, h4, h5, h6, (fun g1 => ⟨_, _, _, rfl, r6⟩), h8, h9, h10, h11⟩
                | 8, _ =>
                  intro o ho l xs w1 hl hx hG hi hdep K hK
                  obtain rfl := Option.some.inj (ho.symm.trans rfl)
                  clear ho
                  obtain ⟨l0, l1, l2, l3, l4, l5, l6, l7, l8, l9, l10, l11, rfl⟩ := IN18_b l hl
                  obtain ⟨x0, x1, x2, x3, x4, x5, x6, x7, x8, x9, x10, x11, rfl⟩ := IN18_v xs hx
                  obtain rfl : l8 = false := hi
                  obtain rfl : l6 = true := hdep 6 (by kernel_rfl)
                  clear hdep hl hx
                  dsimp only [setAll, List.set_cons_zero, List.set_cons_succ] at hK ⊢
                  have hf := IN18_get w w2 wR18 hG
                  obtain ⟨n, P, c, rfl, r6⟩ := (hf.2.2.2.2.2.2.2.1 rfl)
                  clear hf
                  go_simp
                  refine hK.out _ _ ?_
                  clear hK K
                  obtain ⟨SD, h0, h1, h2, h3, h4, h5, h6, h7, h8, h9, h10, h11⟩ := IN18_get w w2 wR18 hG
                  exact IN18_mk w w2 wR18 ⟨SD, h0, h1, h2, h3, h4, h5, h6, h7, (fun g1 => rfl), h9, h10, h11⟩
                | 9, _ =>
                  intro o ho l xs w1 hl hx hG hi hdep K hK
                  obtain rfl := Option.some.inj (ho.symm.trans rfl)
                  clear ho
                  obtain ⟨l0, l1, l2, l3, l4, l5, l6, l7, l8, l9, l10, l11, rfl⟩ := IN18_b l hl
                  obtain ⟨x0, x1, x2, x3, x4, x5, x6, x7, x8, x9, x10, x11, rfl⟩ := IN18_v xs hx
                  obtain rfl : l9 = false := hi
                  clear hdep hl hx
                  dsimp only [setAll, List.set_cons_zero, List.set_cons_succ] at hK ⊢
                  go_simp
                  refine hK.out _ _ ?_
                  clear hK K
                  obtain ⟨SD, h0, h1, h2, h3, h4, h5, h6, h7, h8, h9, h10, h11⟩ := IN18_get w w2 wR18 hG
                  have hb := fun ob => (Below.refl w1.heap.size w1).alloc (Nat.le_refl _) ob
                  exact IN18_mk w w2 wR18 ⟨SD.keep (hb _), h0, h1, (fun g1 g2 => by obtain ⟨b, e, r⟩ := h2 g1 g2; exact ⟨b, e, r.below (hb _)⟩), (fun g1 g2 => by obtain ⟨b, e, r⟩ := h3 g1 g2; exact ⟨b, e, r.below (hb _)⟩), (fun g1 g2 => by obtain ⟨b, e, r⟩ := h4 g1 g2; exact ⟨b, e, r.below (hb _)⟩), (fun g1 => by obtain ⟨n, P, c, e, r⟩ := h5 g1; exact ⟨n, P, c, e, r.below (hb _)⟩), (fun g1 => by obtain ⟨n, P, c, e, r⟩ := h6 g1; exact ⟨n, P, c, e, r.below (hb _)⟩), (fun g1 => by obtain ⟨n, P, c, e, r⟩ := h7 g1; exact ⟨n, P, c, e, r.below (hb _)⟩), h8, (fun g1 => ⟨_, rfl, fun _ => ⟨SD.size, Blk.new _ _ _⟩⟩), (fun g1 => by obtain ⟨hl, g, n, P, c, e, hg, r⟩ := h10 g1; cases hl), h11⟩
                | 10, _ =>
                  intro o ho l xs w1 hl hx hG hi hdep K hK
                  obtain rfl := Option.some.inj (ho.symm.trans rfl)
                  clear ho
                  obtain ⟨l0, l1, l2, l3, l4, l5, l6, l7, l8, l9, l10, l11, rfl⟩ := IN18_b l hl
                  obtain ⟨x0, x1, x2, x3, x4, x5, x6, x7, x8, x9, x10, x11, rfl⟩ := IN18_v xs hx
                  obtain rfl : l10 = false := hi
                  obtain rfl : l0 = true := hdep 0 (by kernel_rfl)
                  obtain rfl : l1 = true := hdep 1 (by kernel_rfl)
                  obtain rfl : l2 = true := hdep 2 (by kernel_rfl)
                  obtain rfl : l3 = true := hdep 3 (by kernel_rfl)
                  obtain rfl : l4 = true := hdep 4 (by kernel_rfl)
                  obtain rfl : l5 = true := hdep 5 (by kernel_rfl)
                  obtain rfl : l6 = true := hdep 6 (by kernel_rfl)
                  obtain rfl : l7 = true := hdep 7 (by kernel_rfl)
                  obtain rfl : l9 = true := hdep 9 (by kernel_rfl)
                  clear hdep hl hx
                  dsimp only [setAll, List.set_cons_zero, List.set_cons_succ] at hK ⊢
                  have hf := IN18_get w w2 wR18 hG
                  obtain ⟨n, P, c, rfl, r7⟩ := (hf.2.2.2.2.2.2.2.2.1 rfl)
                  obtain ⟨b9, rfl, r9⟩ := (hf.2.2.2.2.2.2.2.2.2.2.1 rfl)
                  obtain ⟨hge, hB⟩ := r9 rfl
                  obtain ⟨z0, z1, z2⟩ := hB.cell3
                  obtain ⟨f0, f1, f2⟩ := hB.frozen3
                  clear hf
                  go_simp
                  refine hK.out undef _ ?_
                  clear hK K
                  obtain ⟨SD, h0, h1, h2, h3, h4, h5, h6, h7, h8, h9, h10, h11⟩ := IN18_get w w2 wR18 hG
                  exact IN18_mk w w2 wR18 ⟨(SD.put3 (bb := b9) (by omega) hB ⟨(by show _ ≠ _; omega), (by show _ ≠ _; omega), (by show _ ≠ _; omega), trivial⟩ wvX.w wvX.h P n c), h0, h1, (fun _ g2 => by cases g2), (fun _ g2 => by cases g2), (fun _ g2 => by cases g2), (fun g1 => by obtain ⟨n, P, c, e, r⟩ := h5 g1; exact ⟨n, P, c, e, ((r.far (p := ⟨b9, 0, none⟩) (rd_not_blk r hB) _).far (p := ⟨b9, 1, none⟩) (rd_not_blk r hB) _).far (p := ⟨b9, 2, none⟩) (rd_not_blk r hB) _⟩), (fun g1 => by obtain ⟨n, P, c, e, r⟩ := h6 g1; exact ⟨n, P, c, e, ((r.far (p := ⟨b9, 0, none⟩) (rd_not_blk r hB) _).far (p := ⟨b9, 1, none⟩) (rd_not_blk r hB) _).far (p := ⟨b9, 2, none⟩) (rd_not_blk r hB) _⟩), (fun g1 => by obtain ⟨n, P, c, e, r⟩ := h7 g1; exact ⟨n, P, c, e, ((r.far (p := ⟨b9, 0, none⟩) (rd_not_blk r hB) _).far (p := ⟨b9, 1, none⟩) (rd_not_blk r hB) _).far (p := ⟨b9, 2, none⟩) (rd_not_blk r hB) _⟩), h8, (fun g1 => by obtain ⟨b, e, r⟩ := h9 g1; exact ⟨b, e, fun g3 => by cases g3⟩), (fun g1 => ⟨rfl, b9, n, P, c, rfl, hB.set3 _ _ _, ((r7.far (p := ⟨b9, 0, none⟩) (rd_not_blk r7 hB) _).far (p := ⟨b9, 1, none⟩) (rd_not_blk r7 hB) _).far (p := ⟨b9, 2, none⟩) (rd_not_blk r7 hB) _⟩), h11⟩
                | 11, _ =>
                  intro o ho l xs w1 hl hx hG hi hdep K hK
                  obtain rfl := Option.some.inj (ho.symm.trans rfl)
                  clear ho
                  obtain ⟨l0, l1, l2, l3, l4, l5, l6, l7, l8, l9, l10, l11, rfl⟩ := IN18_b l hl
                  obtain ⟨x0, x1, x2, x3, x4, x5, x6, x7, x8, x9, x10, x11, rfl⟩ := IN18_v xs hx
                  obtain rfl : l11 = false := hi
                  obtain rfl : l8 = true := hdep 8 (by kernel_rfl)
                  obtain rfl : l10 = true := hdep 10 (by kernel_rfl)
                  obtain rfl : l0 = true := hdep 0 (by kernel_rfl)
                  obtain rfl : l1 = true := hdep 1 (by kernel_rfl)
                  obtain rfl : l2 = true := hdep 2 (by kernel_rfl)
                  obtain rfl : l3 = true := hdep 3 (by kernel_rfl)
                  obtain rfl : l4 = true := hdep 4 (by kernel_rfl)
                  obtain rfl : l5 = true := hdep 5 (by kernel_rfl)
                  obtain rfl : l6 = true := hdep 6 (by kernel_rfl)
                  obtain rfl : l7 = true := hdep 7 (by kernel_rfl)
                  obtain rfl : l9 = true := hdep 9 (by kernel_rfl)
                  clear hdep hl hx
                  dsimp only [setAll, List.set_cons_zero, List.set_cons_succ] at hK ⊢
                  have hf := IN18_get w w2 wR18 hG
                  obtain rfl := (hf.2.2.2.2.2.2.2.2.2.1 rfl)
                  clear hf
                  go_simp
                  refine hK.out _ _ ?_
                  clear hK K
                  obtain ⟨SD, h0, h1, h2, h3, h4, h5, h6, h7, h8, h9, h10, h11⟩ := IN18_get w w2 wR18 hG
                  exact IN18_mk w w2 wR18 ⟨SD, h0, h1, (fun _ g2 => by cases g2), (fun _ g2 => by cases g2), (fun _ g2 => by cases g2), h5, h6, h7, h8, h9, h10, (fun g1 => rfl)⟩
                | k + 12, h => exact absurd h (by omega)
              · obtain ⟨x0, x1, x2, x3, x4, x5, x6, x7, x8, x9, x10, x11, rfl⟩ := IN18_v xs hx
                have hG : IN18 w w2 wR18 [true, true, true, true, true, true, true, true, true, true, true, true] [x0, x1, x2, x3, x4, x5, x6, x7, x8, x9, x10, x11] wf := hG
                have hf := IN18_get w w2 wR18 hG
                have SD := hf.1
                obtain ⟨_, g, n, P, c, rfl, hg, r⟩ := (hf.2.2.2.2.2.2.2.2.2.2.2.1 rfl)
                obtain rfl := (hf.2.2.2.2.2.2.2.2.2.2.2.2 rfl)
                clear hf hG
                dsimp only [setAll, List.set_cons_zero, List.set_cons_succ]
                go_wp2_with fail
                go_meet
                exact ⟨_, n, P, c, rfl, rfl, hg, r, SD⟩
          case rest =>
            as_aux_lemma =>
            obtain ⟨gw, nw, Bw, cw, rfl, rfl, hGw, hRw, SZ⟩ := hcut
            have SR18 := SW.keep SZ.below
            clear SW SB
            have SY := (SR18.addBlk hGw).addRd hRw
            simp only [List.nil_append, List.cons_append] at SY
            clear SR18 hGw hRw
            have SD := SY.drew
            clear SY
            go_upto_region 19 with fail
            as_aux_lemma =>
            refine wp_region_held_drew (S := (fun w' => (w'.cell? ⟨gw, 0, none⟩ = some (.int .i64 2) ∧ w'.cell? ⟨gw, 1, none⟩ = some (.int .i64 2) ∧ w'.cell? ⟨gw, 2, none⟩ = some (.slice Bw nw cw)) ∧ w'.cell? ⟨b1, o1, none⟩ = some (.slice E1 16 d1) ∧ w'.cell? ⟨b2, o2, none⟩ = some (.slice E2 16 d2))) (by kernel_rfl) ?_ (fun hHeld => ?_)
            · (try dsimp only); exact ⟨(SD.blk 11 rfl).cell3, rd_one (SD.rd 9 rfl), rd_one (SD.rd 10 rfl)⟩
            refine man_take 0 157 (v := ?_) ⟨_, rfl, rfl⟩ (by kernel_rfl) (by kernel_rfl) (by kernel_rfl) (fun _ _ _ h => h) (by assumption) ?_ ?_
            rotate_left
            · intro oi ho; cases ho; refine ⟨by rfl, ?_⟩; intro w hSw; (try dsimp only at hSw); go_simp; try with_reducible rfl
            (try simp only [Act.put, List.setIfInBounds_toArray, List.set_cons_zero, List.set_cons_succ])
            refine man_run 1 rfl (by kernel_rfl) (fun K hK => ?_)
            go_simp
            refine (KA.out _).mono ?_
            rintro e w61 ⟨rfl, hb61⟩
            replace SD := SD.keep hb61
            go_wp2_with fail
            refine hK.out _ _ ?_ (fun hHeld => ?_)
            · (try dsimp only); exact ⟨(SD.blk 11 rfl).cell3, rd_one (SD.rd 9 rfl), rd_one (SD.rd 10 rfl)⟩
            clear hK K
            (try simp only [Act.put, List.setIfInBounds_toArray, List.set_cons_zero, List.set_cons_succ])
            refine man_take 2 159 (v := ?_) ⟨_, rfl, rfl⟩ (by kernel_rfl) (by kernel_rfl) (by kernel_rfl) (fun _ _ _ h => h) (by assumption) ?_ ?_
            rotate_left
            · intro oi ho; cases ho; refine ⟨by rfl, ?_⟩; intro w hSw; (try dsimp only at hSw); go_simp; try with_reducible rfl
            (try simp only [Act.put, List.setIfInBounds_toArray, List.set_cons_zero, List.set_cons_succ])
            refine man_take 3 160 (v := ?_) ⟨_, rfl, rfl⟩ (by kernel_rfl) (by kernel_rfl) (by kernel_rfl) (fun _ _ _ h => h) (by assumption) ?_ ?_
            rotate_left
            · intro oi ho; cases ho; refine ⟨by rfl, ?_⟩; intro w hSw; (try dsimp only at hSw); go_simp; try with_reducible rfl
            (try simp only [Act.put, List.setIfInBounds_toArray, List.set_cons_zero, List.set_cons_succ])
            refine man_take 4 161 (v := ?_) ⟨_, rfl, rfl⟩ (by kernel_rfl) (by kernel_rfl) (by kernel_rfl) (fun _ _ _ h => h) (by assumption) ?_ ?_
            rotate_left
            · intro oi ho; cases ho; refine ⟨by rfl, ?_⟩; intro w hSw; (try dsimp only at hSw); go_simp; try with_reducible rfl
            (try simp only [Act.put, List.setIfInBounds_toArray, List.set_cons_zero, List.set_cons_succ])
            refine man_take 5 162 (v := ?_) ⟨_, rfl, rfl⟩ (by kernel_rfl) (by kernel_rfl) (by kernel_rfl) (fun _ _ _ h => h) (by assumption) ?_ ?_
            rotate_left
            · intro oi ho; cases ho; refine ⟨by rfl, ?_⟩; intro w hSw; (try dsimp only at hSw); go_simp; try with_reducible rfl
            (try simp only [Act.put, List.setIfInBounds_toArray, List.set_cons_zero, List.set_cons_succ])
            refine man_take 6 163 (v := ?_) ⟨_, rfl, rfl⟩ (by kernel_rfl) (by kernel_rfl) (by kernel_rfl) (fun _ _ _ h => h) (by assumption) ?_ ?_
            rotate_left
            · intro oi ho; cases ho; refine ⟨by rfl, ?_⟩; intro w hSw; (try dsimp only at hSw); go_simp; try with_reducible rfl
            (try simp only [Act.put, List.setIfInBounds_toArray, List.set_cons_zero, List.set_cons_succ])
            refine man_take 7 164 (v := ?_) ⟨_, rfl, rfl⟩ (by kernel_rfl) (by kernel_rfl) (by kernel_rfl) (fun _ _ _ h => h) (by assumption) ?_ ?_
            rotate_left
            · intro oi ho; cases ho; refine ⟨by rfl, ?_⟩; intro w hSw; (try dsimp only at hSw); go_simp; try with_reducible rfl
            (try simp only [Act.put, List.setIfInBounds_toArray, List.set_cons_zero, List.set_cons_succ])
            refine man_take 8 165 (v := ?_) ⟨_, rfl, rfl⟩ (by kernel_rfl) (by kernel_rfl) (by kernel_rfl) (fun _ _ _ h => h) (by assumption) ?_ ?_
            rotate_left
            · intro oi ho; cases ho; refine ⟨by rfl, ?_⟩; intro w hSw; (try dsimp only at hSw); go_simp; try with_reducible rfl
            (try simp only [Act.put, List.setIfInBounds_toArray, List.set_cons_zero, List.set_cons_succ])
            refine man_take 9 166 (v := ?_) ⟨_, rfl, rfl⟩ (by kernel_rfl) (by kernel_rfl) (by kernel_rfl) (fun _ _ _ h => h) (by assumption) ?_ ?_
            rotate_left
            · intro oi ho; cases ho; refine ⟨by rfl, ?_⟩; intro w hSw; (try dsimp only at hSw); go_simp; try with_reducible rfl
            (try simp only [Act.put, List.setIfInBounds_toArray, List.set_cons_zero, List.set_cons_succ])
            refine man_take 10 167 (v := ?_) ⟨_, rfl, rfl⟩ (by kernel_rfl) (by kernel_rfl) (by kernel_rfl) (fun _ _ _ h => h) (by assumption) ?_ ?_
            rotate_left
            · intro oi ho; cases ho; refine ⟨by rfl, ?_⟩; intro w hSw; (try dsimp only at hSw); go_simp; try with_reducible rfl
            (try simp only [Act.put, List.setIfInBounds_toArray, List.set_cons_zero, List.set_cons_succ])
            as_aux_lemma =>
            refine man_take 11 168 (v := ?_) ⟨_, rfl, rfl⟩ (by kernel_rfl) (by kernel_rfl) (by kernel_rfl) (fun _ _ _ h => h) (by assumption) ?_ ?_
            rotate_left
            · intro oi ho; cases ho; refine ⟨by rfl, ?_⟩; intro w hSw; (try dsimp only at hSw); go_simp; try with_reducible rfl
            (try simp only [Act.put, List.setIfInBounds_toArray, List.set_cons_zero, List.set_cons_succ])
            refine man_take 12 169 (v := ?_) ⟨_, rfl, rfl⟩ (by kernel_rfl) (by kernel_rfl) (by kernel_rfl) (fun _ _ _ h => h) (by assumption) ?_ ?_
            rotate_left
            · intro oi ho; cases ho; refine ⟨by rfl, ?_⟩; intro w hSw; (try dsimp only at hSw); go_simp; try with_reducible rfl
            (try simp only [Act.put, List.setIfInBounds_toArray, List.set_cons_zero, List.set_cons_succ])
            refine man_take 13 170 (v := ?_) ⟨_, rfl, rfl⟩ (by kernel_rfl) (by kernel_rfl) (by kernel_rfl) (fun _ _ _ h => h) (by assumption) ?_ ?_
            rotate_left
            · intro oi ho; cases ho; refine ⟨by rfl, ?_⟩; intro w hSw; (try dsimp only at hSw); go_simp; try with_reducible rfl
            (try simp only [Act.put, List.setIfInBounds_toArray, List.set_cons_zero, List.set_cons_succ])
            refine man_take 14 171 (v := ?_) ⟨_, rfl, rfl⟩ (by kernel_rfl) (by kernel_rfl) (by kernel_rfl) (fun _ _ _ h => h) (by assumption) ?_ ?_
            rotate_left
            · intro oi ho; cases ho; refine ⟨by rfl, ?_⟩; intro w hSw; (try dsimp only at hSw); go_simp; try with_reducible rfl
            (try simp only [Act.put, List.setIfInBounds_toArray, List.set_cons_zero, List.set_cons_succ])
            refine man_take 15 172 (v := ?_) ⟨_, rfl, rfl⟩ (by kernel_rfl) (by kernel_rfl) (by kernel_rfl) (fun _ _ _ h => h) (by assumption) ?_ ?_
            rotate_left
            · intro oi ho; cases ho; refine ⟨by rfl, ?_⟩; intro w hSw; (try dsimp only at hSw); go_simp; try with_reducible rfl
            (try simp only [Act.put, List.setIfInBounds_toArray, List.set_cons_zero, List.set_cons_succ])
            refine man_take 16 173 (v := ?_) ⟨_, rfl, rfl⟩ (by kernel_rfl) (by kernel_rfl) (by kernel_rfl) (fun _ _ _ h => h) (by assumption) ?_ ?_
            rotate_left
            · intro oi ho; cases ho; refine ⟨by rfl, ?_⟩; intro w hSw; (try dsimp only at hSw); go_simp; try with_reducible rfl
            (try simp only [Act.put, List.setIfInBounds_toArray, List.set_cons_zero, List.set_cons_succ])
            refine man_take 17 174 (v := ?_) ⟨_, rfl, rfl⟩ (by kernel_rfl) (by kernel_rfl) (by kernel_rfl) (fun _ _ _ h => h) (by assumption) ?_ ?_
            rotate_left
            · intro oi ho; cases ho; refine ⟨by rfl, ?_⟩; intro w hSw; (try dsimp only at hSw); go_simp; try with_reducible rfl
            (try simp only [Act.put, List.setIfInBounds_toArray, List.set_cons_zero, List.set_cons_succ])
            refine man_take 18 175 (v := ?_) ⟨_, rfl, rfl⟩ (by kernel_rfl) (by kernel_rfl) (by kernel_rfl) (fun _ _ _ h => h) (by assumption) ?_ ?_
            rotate_left
            · intro oi ho; cases ho; refine ⟨by rfl, ?_⟩; intro w hSw; (try dsimp only at hSw); go_simp; try with_reducible rfl
            (try simp only [Act.put, List.setIfInBounds_toArray, List.set_cons_zero, List.set_cons_succ])
            refine man_take 19 176 (v := ?_) ⟨_, rfl, rfl⟩ (by kernel_rfl) (by kernel_rfl) (by kernel_rfl) (fun _ _ _ h => h) (by assumption) ?_ ?_
            rotate_left
            · intro oi ho; cases ho; refine ⟨by rfl, ?_⟩; intro w hSw; (try dsimp only at hSw); go_simp; try with_reducible rfl
            (try simp only [Act.put, List.setIfInBounds_toArray, List.set_cons_zero, List.set_cons_succ])
            refine man_take 20 177 (v := ?_) ⟨_, rfl, rfl⟩ (by kernel_rfl) (by kernel_rfl) (by kernel_rfl) (fun _ _ _ h => h) (by assumption) ?_ ?_
            rotate_left
            · intro oi ho; cases ho; refine ⟨by rfl, ?_⟩; intro w hSw; (try dsimp only at hSw); go_simp; try with_reducible rfl
            (try simp only [Act.put, List.setIfInBounds_toArray, List.set_cons_zero, List.set_cons_succ])
            refine man_take 21 178 (v := ?_) ⟨_, rfl, rfl⟩ (by kernel_rfl) (by kernel_rfl) (by kernel_rfl) (fun _ _ _ h => h) (by assumption) ?_ ?_
            rotate_left
            · intro oi ho; cases ho; refine ⟨by rfl, ?_⟩; intro w hSw; (try dsimp only at hSw); go_simp; try with_reducible rfl
            (try simp only [Act.put, List.setIfInBounds_toArray, List.set_cons_zero, List.set_cons_succ])
            refine man_take 22 179 (v := ?_) ⟨_, rfl, rfl⟩ (by kernel_rfl) (by kernel_rfl) (by kernel_rfl) (fun _ _ _ h => h) (by assumption) ?_ ?_
            rotate_left
            · intro oi ho; cases ho; refine ⟨by rfl, ?_⟩; intro w hSw; (try dsimp only at hSw); go_simp; try with_reducible rfl
            (try simp only [Act.put, List.setIfInBounds_toArray, List.set_cons_zero, List.set_cons_succ])
            as_aux_lemma =>
            refine man_take 23 180 (v := ?_) ⟨_, rfl, rfl⟩ (by kernel_rfl) (by kernel_rfl) (by kernel_rfl) (fun _ _ _ h => h) (by assumption) ?_ ?_
            rotate_left
            · intro oi ho; cases ho; refine ⟨by rfl, ?_⟩; intro w hSw; (try dsimp only at hSw); go_simp; try with_reducible rfl
            (try simp only [Act.put, List.setIfInBounds_toArray, List.set_cons_zero, List.set_cons_succ])
            refine man_take 24 181 (v := ?_) ⟨_, rfl, rfl⟩ (by kernel_rfl) (by kernel_rfl) (by kernel_rfl) (fun _ _ _ h => h) (by assumption) ?_ ?_
            rotate_left
            · intro oi ho; cases ho; refine ⟨by rfl, ?_⟩; intro w hSw; (try dsimp only at hSw); go_simp; try with_reducible rfl
            (try simp only [Act.put, List.setIfInBounds_toArray, List.set_cons_zero, List.set_cons_succ])
            refine man_take 25 182 (v := ?_) ⟨_, rfl, rfl⟩ (by kernel_rfl) (by kernel_rfl) (by kernel_rfl) (fun _ _ _ h => h) (by assumption) ?_ ?_
            rotate_left
            · intro oi ho; cases ho; refine ⟨by rfl, ?_⟩; intro w hSw; (try dsimp only at hSw); go_simp; try with_reducible rfl
            (try simp only [Act.put, List.setIfInBounds_toArray, List.set_cons_zero, List.set_cons_succ])
            refine man_take 26 183 (v := ?_) ⟨_, rfl, rfl⟩ (by kernel_rfl) (by kernel_rfl) (by kernel_rfl) (fun _ _ _ h => h) (by assumption) ?_ ?_
            rotate_left
            · intro oi ho; cases ho; refine ⟨by rfl, ?_⟩; intro w hSw; (try dsimp only at hSw); go_simp; try with_reducible rfl
            (try simp only [Act.put, List.setIfInBounds_toArray, List.set_cons_zero, List.set_cons_succ])
            refine man_take 27 184 (v := ?_) ⟨_, rfl, rfl⟩ (by kernel_rfl) (by kernel_rfl) (by kernel_rfl) (fun _ _ _ h => h) (by assumption) ?_ ?_
            rotate_left
            · intro oi ho; cases ho; refine ⟨by rfl, ?_⟩; intro w hSw; (try dsimp only at hSw); go_simp; try with_reducible rfl
            (try simp only [Act.put, List.setIfInBounds_toArray, List.set_cons_zero, List.set_cons_succ])
            refine man_take 28 185 (v := ?_) ⟨_, rfl, rfl⟩ (by kernel_rfl) (by kernel_rfl) (by kernel_rfl) (fun _ _ _ h => h) (by assumption) ?_ ?_
            rotate_left
            · intro oi ho; cases ho; refine ⟨by rfl, ?_⟩; intro w hSw; (try dsimp only at hSw); go_simp; try with_reducible rfl
            (try simp only [Act.put, List.setIfInBounds_toArray, List.set_cons_zero, List.set_cons_succ])
            refine man_take 29 186 (v := ?_) ⟨_, rfl, rfl⟩ (by kernel_rfl) (by kernel_rfl) (by kernel_rfl) (fun _ _ _ h => h) (by assumption) ?_ ?_
            rotate_left
            · intro oi ho; cases ho; refine ⟨by rfl, ?_⟩; intro w hSw; (try dsimp only at hSw); go_simp; try with_reducible rfl
            (try simp only [Act.put, List.setIfInBounds_toArray, List.set_cons_zero, List.set_cons_succ])
            refine man_take 30 187 (v := ?_) ⟨_, rfl, rfl⟩ (by kernel_rfl) (by kernel_rfl) (by kernel_rfl) (fun _ _ _ h => h) (by assumption) ?_ ?_
            rotate_left
            · intro oi ho; cases ho; refine ⟨by rfl, ?_⟩; intro w hSw; (try dsimp only at hSw); go_simp; try with_reducible rfl
            (try simp only [Act.put, List.setIfInBounds_toArray, List.set_cons_zero, List.set_cons_succ])
            refine man_take 31 188 (v := ?_) ⟨_, rfl, rfl⟩ (by kernel_rfl) (by kernel_rfl) (by kernel_rfl) (fun _ _ _ h => h) (by assumption) ?_ ?_
            rotate_left
            · intro oi ho; cases ho; refine ⟨by rfl, ?_⟩; intro w hSw; (try dsimp only at hSw); go_simp; try with_reducible rfl
            (try simp only [Act.put, List.setIfInBounds_toArray, List.set_cons_zero, List.set_cons_succ])
            refine man_take 32 189 (v := ?_) ⟨_, rfl, rfl⟩ (by kernel_rfl) (by kernel_rfl) (by kernel_rfl) (fun _ _ _ h => h) (by assumption) ?_ ?_
            rotate_left
            · intro oi ho; cases ho; refine ⟨by rfl, ?_⟩; intro w hSw; (try dsimp only at hSw); go_simp; try with_reducible rfl
            (try simp only [Act.put, List.setIfInBounds_toArray, List.set_cons_zero, List.set_cons_succ])
            refine man_take 33 190 (v := ?_) ⟨_, rfl, rfl⟩ (by kernel_rfl) (by kernel_rfl) (by kernel_rfl) (fun _ _ _ h => h) (by assumption) ?_ ?_
            rotate_left
            · intro oi ho; cases ho; refine ⟨by rfl, ?_⟩; intro w hSw; (try dsimp only at hSw); go_simp; try with_reducible rfl
            (try simp only [Act.put, List.setIfInBounds_toArray, List.set_cons_zero, List.set_cons_succ])
            refine man_take 34 191 (v := ?_) ⟨_, rfl, rfl⟩ (by kernel_rfl) (by kernel_rfl) (by kernel_rfl) (fun _ _ _ h => h) (by assumption) ?_ ?_
            rotate_left
            · intro oi ho; cases ho; refine ⟨by rfl, ?_⟩; intro w hSw; (try dsimp only at hSw); go_simp; try with_reducible rfl
            (try simp only [Act.put, List.setIfInBounds_toArray, List.set_cons_zero, List.set_cons_succ])
            as_aux_lemma =>
            refine man_take 35 192 (v := ?_) ⟨_, rfl, rfl⟩ (by kernel_rfl) (by kernel_rfl) (by kernel_rfl) (fun _ _ _ h => h) (by assumption) ?_ ?_
            rotate_left
            · intro oi ho; cases ho; refine ⟨by rfl, ?_⟩; intro w hSw; (try dsimp only at hSw); go_simp; try with_reducible rfl
            (try simp only [Act.put, List.setIfInBounds_toArray, List.set_cons_zero, List.set_cons_succ])
            refine man_take 36 193 (v := ?_) ⟨_, rfl, rfl⟩ (by kernel_rfl) (by kernel_rfl) (by kernel_rfl) (fun _ _ _ h => h) (by assumption) ?_ ?_
            rotate_left
            · intro oi ho; cases ho; refine ⟨by rfl, ?_⟩; intro w hSw; (try dsimp only at hSw); go_simp; try with_reducible rfl
            (try simp only [Act.put, List.setIfInBounds_toArray, List.set_cons_zero, List.set_cons_succ])
            refine man_take 37 194 (v := ?_) ⟨_, rfl, rfl⟩ (by kernel_rfl) (by kernel_rfl) (by kernel_rfl) (fun _ _ _ h => h) (by assumption) ?_ ?_
            rotate_left
            · intro oi ho; cases ho; refine ⟨by rfl, ?_⟩; intro w hSw; (try dsimp only at hSw); go_simp; try with_reducible rfl
            (try simp only [Act.put, List.setIfInBounds_toArray, List.set_cons_zero, List.set_cons_succ])
            refine man_take 38 195 (v := ?_) ⟨_, rfl, rfl⟩ (by kernel_rfl) (by kernel_rfl) (by kernel_rfl) (fun _ _ _ h => h) (by assumption) ?_ ?_
            rotate_left
            · intro oi ho; cases ho; refine ⟨by rfl, ?_⟩; intro w hSw; (try dsimp only at hSw); go_simp; try with_reducible rfl
            (try simp only [Act.put, List.setIfInBounds_toArray, List.set_cons_zero, List.set_cons_succ])
            refine man_take 39 196 (v := ?_) ⟨_, rfl, rfl⟩ (by kernel_rfl) (by kernel_rfl) (by kernel_rfl) (fun _ _ _ h => h) (by assumption) ?_ ?_
            rotate_left
            · intro oi ho; cases ho; refine ⟨by rfl, ?_⟩; intro w hSw; (try dsimp only at hSw); go_simp; try with_reducible rfl
            (try simp only [Act.put, List.setIfInBounds_toArray, List.set_cons_zero, List.set_cons_succ])
            refine man_take 40 197 (v := ?_) ⟨_, rfl, rfl⟩ (by kernel_rfl) (by kernel_rfl) (by kernel_rfl) (fun _ _ _ h => h) (by assumption) ?_ ?_
            rotate_left
            · intro oi ho; cases ho; refine ⟨by rfl, ?_⟩; intro w hSw; (try dsimp only at hSw); go_simp; try with_reducible rfl
            (try simp only [Act.put, List.setIfInBounds_toArray, List.set_cons_zero, List.set_cons_succ])
            refine man_take 41 198 (v := ?_) ⟨_, rfl, rfl⟩ (by kernel_rfl) (by kernel_rfl) (by kernel_rfl) (fun _ _ _ h => h) (by assumption) ?_ ?_
            rotate_left
            · intro oi ho; cases ho; refine ⟨by rfl, ?_⟩; intro w hSw; (try dsimp only at hSw); go_simp; try with_reducible rfl
            (try simp only [Act.put, List.setIfInBounds_toArray, List.set_cons_zero, List.set_cons_succ])
            refine man_take 42 199 (v := ?_) ⟨_, rfl, rfl⟩ (by kernel_rfl) (by kernel_rfl) (by kernel_rfl) (fun _ _ _ h => h) (by assumption) ?_ ?_
            rotate_left
            · intro oi ho; cases ho; refine ⟨by rfl, ?_⟩; intro w hSw; (try dsimp only at hSw); go_simp; try with_reducible rfl
            (try simp only [Act.put, List.setIfInBounds_toArray, List.set_cons_zero, List.set_cons_succ])
            refine man_take 43 200 (v := ?_) ⟨_, rfl, rfl⟩ (by kernel_rfl) (by kernel_rfl) (by kernel_rfl) (fun _ _ _ h => h) (by assumption) ?_ ?_
            rotate_left
            · intro oi ho; cases ho; refine ⟨by rfl, ?_⟩; intro w hSw; (try dsimp only at hSw); go_simp; try with_reducible rfl
            (try simp only [Act.put, List.setIfInBounds_toArray, List.set_cons_zero, List.set_cons_succ])
            refine man_take 44 201 (v := ?_) ⟨_, rfl, rfl⟩ (by kernel_rfl) (by kernel_rfl) (by kernel_rfl) (fun _ _ _ h => h) (by assumption) ?_ ?_
            rotate_left
            · intro oi ho; cases ho; refine ⟨by rfl, ?_⟩; intro w hSw; (try dsimp only at hSw); go_simp; try with_reducible rfl
            (try simp only [Act.put, List.setIfInBounds_toArray, List.set_cons_zero, List.set_cons_succ])
            refine man_take 45 202 (v := ?_) ⟨_, rfl, rfl⟩ (by kernel_rfl) (by kernel_rfl) (by kernel_rfl) (fun _ _ _ h => h) (by assumption) ?_ ?_
            rotate_left
            · intro oi ho; cases ho; refine ⟨by rfl, ?_⟩; intro w hSw; (try dsimp only at hSw); go_simp; try with_reducible rfl
            (try simp only [Act.put, List.setIfInBounds_toArray, List.set_cons_zero, List.set_cons_succ])
            refine man_take 46 203 (v := ?_) ⟨_, rfl, rfl⟩ (by kernel_rfl) (by kernel_rfl) (by kernel_rfl) (fun _ _ _ h => h) (by assumption) ?_ ?_
            rotate_left
            · intro oi ho; cases ho; refine ⟨by rfl, ?_⟩; intro w hSw; (try dsimp only at hSw); go_simp; try with_reducible rfl
            (try simp only [Act.put, List.setIfInBounds_toArray, List.set_cons_zero, List.set_cons_succ])
            as_aux_lemma =>
            refine man_take 47 204 (v := ?_) ⟨_, rfl, rfl⟩ (by kernel_rfl) (by kernel_rfl) (by kernel_rfl) (fun _ _ _ h => h) (by assumption) ?_ ?_
            rotate_left
            · intro oi ho; cases ho; refine ⟨by rfl, ?_⟩; intro w hSw; (try dsimp only at hSw); go_simp; try with_reducible rfl
            (try simp only [Act.put, List.setIfInBounds_toArray, List.set_cons_zero, List.set_cons_succ])
            refine man_take 48 205 (v := ?_) ⟨_, rfl, rfl⟩ (by kernel_rfl) (by kernel_rfl) (by kernel_rfl) (fun _ _ _ h => h) (by assumption) ?_ ?_
            rotate_left
            · intro oi ho; cases ho; refine ⟨by rfl, ?_⟩; intro w hSw; (try dsimp only at hSw); go_simp; try with_reducible rfl
            (try simp only [Act.put, List.setIfInBounds_toArray, List.set_cons_zero, List.set_cons_succ])
            refine man_take 49 206 (v := ?_) ⟨_, rfl, rfl⟩ (by kernel_rfl) (by kernel_rfl) (by kernel_rfl) (fun _ _ _ h => h) (by assumption) ?_ ?_
            rotate_left
            · intro oi ho; cases ho; refine ⟨by rfl, ?_⟩; intro w hSw; (try dsimp only at hSw); go_simp; try with_reducible rfl
            (try simp only [Act.put, List.setIfInBounds_toArray, List.set_cons_zero, List.set_cons_succ])
            refine man_take 50 207 (v := ?_) ⟨_, rfl, rfl⟩ (by kernel_rfl) (by kernel_rfl) (by kernel_rfl) (fun _ _ _ h => h) (by assumption) ?_ ?_
            rotate_left
            · intro oi ho; cases ho; refine ⟨by rfl, ?_⟩; intro w hSw; (try dsimp only at hSw); go_simp; try with_reducible rfl
            (try simp only [Act.put, List.setIfInBounds_toArray, List.set_cons_zero, List.set_cons_succ])
            refine man_take 51 208 (v := ?_) ⟨_, rfl, rfl⟩ (by kernel_rfl) (by kernel_rfl) (by kernel_rfl) (fun _ _ _ h => h) (by assumption) ?_ ?_
            rotate_left
            · intro oi ho; cases ho; refine ⟨by rfl, ?_⟩; intro w hSw; (try dsimp only at hSw); go_simp; try with_reducible rfl
            (try simp only [Act.put, List.setIfInBounds_toArray, List.set_cons_zero, List.set_cons_succ])
            refine man_take 52 209 (v := ?_) ⟨_, rfl, rfl⟩ (by kernel_rfl) (by kernel_rfl) (by kernel_rfl) (fun _ _ _ h => h) (by assumption) ?_ ?_
            rotate_left
            · intro oi ho; cases ho; refine ⟨by rfl, ?_⟩; intro w hSw; (try dsimp only at hSw); go_simp; try with_reducible rfl
            (try simp only [Act.put, List.setIfInBounds_toArray, List.set_cons_zero, List.set_cons_succ])
            refine man_take 53 210 (v := ?_) ⟨_, rfl, rfl⟩ (by kernel_rfl) (by kernel_rfl) (by kernel_rfl) (fun _ _ _ h => h) (by assumption) ?_ ?_
            rotate_left
            · intro oi ho; cases ho; refine ⟨by rfl, ?_⟩; intro w hSw; (try dsimp only at hSw); go_simp; try with_reducible rfl
            (try simp only [Act.put, List.setIfInBounds_toArray, List.set_cons_zero, List.set_cons_succ])
            refine man_take 54 211 (v := ?_) ⟨_, rfl, rfl⟩ (by kernel_rfl) (by kernel_rfl) (by kernel_rfl) (fun _ _ _ h => h) (by assumption) ?_ ?_
            rotate_left
            · intro oi ho; cases ho; refine ⟨by rfl, ?_⟩; intro w hSw; (try dsimp only at hSw); go_simp; try with_reducible rfl
            (try simp only [Act.put, List.setIfInBounds_toArray, List.set_cons_zero, List.set_cons_succ])
            refine man_take 55 212 (v := ?_) ⟨_, rfl, rfl⟩ (by kernel_rfl) (by kernel_rfl) (by kernel_rfl) (fun _ _ _ h => h) (by assumption) ?_ ?_
            rotate_left
            · intro oi ho; cases ho; refine ⟨by rfl, ?_⟩; intro w hSw; (try dsimp only at hSw); go_simp; try with_reducible rfl
            (try simp only [Act.put, List.setIfInBounds_toArray, List.set_cons_zero, List.set_cons_succ])
            refine man_take 56 213 (v := ?_) ⟨_, rfl, rfl⟩ (by kernel_rfl) (by kernel_rfl) (by kernel_rfl) (fun _ _ _ h => h) (by assumption) ?_ ?_
            rotate_left
            · intro oi ho; cases ho; refine ⟨by rfl, ?_⟩; intro w hSw; (try dsimp only at hSw); go_simp; try with_reducible rfl
            (try simp only [Act.put, List.setIfInBounds_toArray, List.set_cons_zero, List.set_cons_succ])
            refine man_take 57 214 (v := ?_) ⟨_, rfl, rfl⟩ (by kernel_rfl) (by kernel_rfl) (by kernel_rfl) (fun _ _ _ h => h) (by assumption) ?_ ?_
            rotate_left
            · intro oi ho; cases ho; refine ⟨by rfl, ?_⟩; intro w hSw; (try dsimp only at hSw); go_simp; try with_reducible rfl
            (try simp only [Act.put, List.setIfInBounds_toArray, List.set_cons_zero, List.set_cons_succ])
            refine man_take 58 215 (v := ?_) ⟨_, rfl, rfl⟩ (by kernel_rfl) (by kernel_rfl) (by kernel_rfl) (fun _ _ _ h => h) (by assumption) ?_ ?_
            rotate_left
            · intro oi ho; cases ho; refine ⟨by rfl, ?_⟩; intro w hSw; (try dsimp only at hSw); go_simp; try with_reducible rfl
            (try simp only [Act.put, List.setIfInBounds_toArray, List.set_cons_zero, List.set_cons_succ])
            as_aux_lemma =>
            refine man_take 59 216 (v := ?_) ⟨_, rfl, rfl⟩ (by kernel_rfl) (by kernel_rfl) (by kernel_rfl) (fun _ _ _ h => h) (by assumption) ?_ ?_
            rotate_left
            · intro oi ho; cases ho; refine ⟨by rfl, ?_⟩; intro w hSw; (try dsimp only at hSw); go_simp; try with_reducible rfl
            (try simp only [Act.put, List.setIfInBounds_toArray, List.set_cons_zero, List.set_cons_succ])
            refine man_take 60 217 (v := ?_) ⟨_, rfl, rfl⟩ (by kernel_rfl) (by kernel_rfl) (by kernel_rfl) (fun _ _ _ h => h) (by assumption) ?_ ?_
            rotate_left
            · intro oi ho; cases ho; refine ⟨by rfl, ?_⟩; intro w hSw; (try dsimp only at hSw); go_simp; try with_reducible rfl
            (try simp only [Act.put, List.setIfInBounds_toArray, List.set_cons_zero, List.set_cons_succ])
            refine man_run 61 rfl (by kernel_rfl) (fun K hK => ?_)
            go_simp
            replace SD := ((SD.box #[.int .i64 0] 3).addRd (n := 1) (xs := ([0] : List Int).map (Value.int .i64)) (rd_of_blk (Blk.new _ 3 #[.int .i64 0])))
            simp only [size_alloc1, List.nil_append, List.cons_append] at SD
            refine hK.out _ _ ?_ (fun hHeld => ?_)
            · (try dsimp only); exact ⟨(SD.blk 11 rfl).cell3, rd_one (SD.rd 9 rfl), rd_one (SD.rd 10 rfl)⟩
            clear hK K
            (try simp only [Act.put, List.setIfInBounds_toArray, List.set_cons_zero, List.set_cons_succ])
            refine man_run 62 rfl (by kernel_rfl) (fun K hK => ?_)
            go_simp
            refine (KL0.out _ _ _ _ _ _ (SD.rd 7 rfl) (SD.rd 14 rfl)).mono ?_
            rintro e w62 ⟨rfl, hb62⟩
            replace SD := SD.keep hb62
            go_wp2_with fail
            refine hK.out _ _ ?_ (fun hHeld => ?_)
            · (try dsimp only); exact ⟨(SD.blk 11 rfl).cell3, rd_one (SD.rd 9 rfl), rd_one (SD.rd 10 rfl)⟩
            clear hK K
            (try simp only [Act.put, List.setIfInBounds_toArray, List.set_cons_zero, List.set_cons_succ])
            refine man_take 63 220 (v := ?_) ⟨_, rfl, rfl⟩ (by kernel_rfl) (by kernel_rfl) (by kernel_rfl) (fun _ _ _ h => h) (by assumption) ?_ ?_
            rotate_left
            · intro oi ho; cases ho; refine ⟨by rfl, ?_⟩; intro w hSw; (try dsimp only at hSw); go_simp; try with_reducible rfl
            (try simp only [Act.put, List.setIfInBounds_toArray, List.set_cons_zero, List.set_cons_succ])
            refine man_take 64 221 (v := ?_) ⟨_, rfl, rfl⟩ (by kernel_rfl) (by kernel_rfl) (by kernel_rfl) (fun _ _ _ h => h) (by assumption) ?_ ?_
            rotate_left
            · intro oi ho; cases ho; refine ⟨by rfl, ?_⟩; intro w hSw; (try dsimp only at hSw); go_simp; try with_reducible rfl
            (try simp only [Act.put, List.setIfInBounds_toArray, List.set_cons_zero, List.set_cons_succ])
            refine man_take 65 222 (v := ?_) ⟨_, rfl, rfl⟩ (by kernel_rfl) (by kernel_rfl) (by kernel_rfl) (fun _ _ _ h => h) (by assumption) ?_ ?_
            rotate_left
            · intro oi ho; cases ho; refine ⟨by rfl, ?_⟩; intro w hSw; (try dsimp only at hSw); go_simp; try with_reducible rfl
            (try simp only [Act.put, List.setIfInBounds_toArray, List.set_cons_zero, List.set_cons_succ])
            refine man_run 66 rfl (by kernel_rfl) (fun K hK => ?_)
            go_simp
            replace SD := ((SD.box #[.int .i64 7] 3).addRd (n := 1) (xs := ([7] : List Int).map (Value.int .i64)) (rd_of_blk (Blk.new _ 3 #[.int .i64 7])))
            simp only [size_alloc1, List.nil_append, List.cons_append] at SD
            refine hK.out _ _ ?_ (fun hHeld => ?_)
            · (try dsimp only); exact ⟨(SD.blk 11 rfl).cell3, rd_one (SD.rd 9 rfl), rd_one (SD.rd 10 rfl)⟩
            clear hK K
            (try simp only [Act.put, List.setIfInBounds_toArray, List.set_cons_zero, List.set_cons_succ])
            refine man_run 67 rfl (by kernel_rfl) (fun K hK => ?_)
            go_simp
            refine (KL7.out _ _ _ _ _ _ (SD.rd 8 rfl) (SD.rd 16 rfl)).mono ?_
            rintro e w63 ⟨rfl, hb63⟩
            replace SD := SD.keep hb63
            go_wp2_with fail
            refine hK.out _ _ ?_ (fun hHeld => ?_)
            · (try dsimp only); exact ⟨(SD.blk 11 rfl).cell3, rd_one (SD.rd 9 rfl), rd_one (SD.rd 10 rfl)⟩
            clear hK K
            (try simp only [Act.put, List.setIfInBounds_toArray, List.set_cons_zero, List.set_cons_succ])
            refine man_take 68 225 (v := ?_) ⟨_, rfl, rfl⟩ (by kernel_rfl) (by kernel_rfl) (by kernel_rfl) (fun _ _ _ h => h) (by assumption) ?_ ?_
            rotate_left
            · intro oi ho; cases ho; refine ⟨by rfl, ?_⟩; intro w hSw; (try dsimp only at hSw); go_simp; try with_reducible rfl
            (try simp only [Act.put, List.setIfInBounds_toArray, List.set_cons_zero, List.set_cons_succ])
            refine man_take 69 226 (v := ?_) ⟨_, rfl, rfl⟩ (by kernel_rfl) (by kernel_rfl) (by kernel_rfl) (fun _ _ _ h => h) (by assumption) ?_ ?_
            rotate_left
            · intro oi ho; cases ho; refine ⟨by rfl, ?_⟩; intro w hSw; (try dsimp only at hSw); go_simp; try with_reducible rfl
            (try simp only [Act.put, List.setIfInBounds_toArray, List.set_cons_zero, List.set_cons_succ])
            refine man_take 70 227 (v := ?_) ⟨_, rfl, rfl⟩ (by kernel_rfl) (by kernel_rfl) (by kernel_rfl) (fun _ _ _ h => h) (by assumption) ?_ ?_
            rotate_left
            · intro oi ho; cases ho; refine ⟨by rfl, ?_⟩; intro w hSw; (try dsimp only at hSw); go_simp; try with_reducible rfl
            (try simp only [Act.put, List.setIfInBounds_toArray, List.set_cons_zero, List.set_cons_succ])
            as_aux_lemma =>
            refine man_take 71 228 (v := ?_) ⟨_, rfl, rfl⟩ (by kernel_rfl) (by kernel_rfl) (by kernel_rfl) (fun _ _ _ h => h) (by assumption) ?_ ?_
            rotate_left
            · intro oi ho; cases ho; refine ⟨by rfl, ?_⟩; intro w hSw; (try dsimp only at hSw); go_simp; try with_reducible rfl
            (try simp only [Act.put, List.setIfInBounds_toArray, List.set_cons_zero, List.set_cons_succ])
            refine man_take 72 229 (v := ?_) ⟨_, rfl, rfl⟩ (by kernel_rfl) (by kernel_rfl) (by kernel_rfl) (fun _ _ _ h => h) (by assumption) ?_ ?_
            rotate_left
            · intro oi ho; cases ho; refine ⟨by rfl, ?_⟩; intro w hSw; (try dsimp only at hSw); go_simp; try with_reducible rfl
            (try simp only [Act.put, List.setIfInBounds_toArray, List.set_cons_zero, List.set_cons_succ])
            refine man_take 73 230 (v := ?_) ⟨_, rfl, rfl⟩ (by kernel_rfl) (by kernel_rfl) (by kernel_rfl) (fun _ _ _ h => h) (by assumption) ?_ ?_
            rotate_left
            · intro oi ho; cases ho; refine ⟨by rfl, ?_⟩; intro w hSw; (try dsimp only at hSw); go_simp; try with_reducible rfl
            (try simp only [Act.put, List.setIfInBounds_toArray, List.set_cons_zero, List.set_cons_succ])
            refine man_take 74 231 (v := ?_) ⟨_, rfl, rfl⟩ (by kernel_rfl) (by kernel_rfl) (by kernel_rfl) (fun _ _ _ h => h) (by assumption) ?_ ?_
            rotate_left
            · intro oi ho; cases ho; refine ⟨by rfl, ?_⟩; intro w hSw; (try dsimp only at hSw); go_simp; try with_reducible rfl
            (try simp only [Act.put, List.setIfInBounds_toArray, List.set_cons_zero, List.set_cons_succ])
            refine man_take 75 232 (v := ?_) ⟨_, rfl, rfl⟩ (by kernel_rfl) (by kernel_rfl) (by kernel_rfl) (fun _ _ _ h => h) (by assumption) ?_ ?_
            rotate_left
            · intro oi ho; cases ho; refine ⟨by rfl, ?_⟩; intro w hSw; (try dsimp only at hSw); go_simp; try with_reducible rfl
            (try simp only [Act.put, List.setIfInBounds_toArray, List.set_cons_zero, List.set_cons_succ])
            refine man_take 76 233 (v := ?_) ⟨_, rfl, rfl⟩ (by kernel_rfl) (by kernel_rfl) (by kernel_rfl) (fun _ _ _ h => h) (by assumption) ?_ ?_
            rotate_left
            · intro oi ho; cases ho; refine ⟨by rfl, ?_⟩; intro w hSw; (try dsimp only at hSw); go_simp; try with_reducible rfl
            (try simp only [Act.put, List.setIfInBounds_toArray, List.set_cons_zero, List.set_cons_succ])
            refine man_take 77 234 (v := ?_) ⟨_, rfl, rfl⟩ (by kernel_rfl) (by kernel_rfl) (by kernel_rfl) (fun _ _ _ h => h) (by assumption) ?_ ?_
            rotate_left
            · intro oi ho; cases ho; refine ⟨by rfl, ?_⟩; intro w hSw; (try dsimp only at hSw); go_simp; try with_reducible rfl
            (try simp only [Act.put, List.setIfInBounds_toArray, List.set_cons_zero, List.set_cons_succ])
            refine man_take 78 235 (v := ?_) ⟨_, rfl, rfl⟩ (by kernel_rfl) (by kernel_rfl) (by kernel_rfl) (fun _ _ _ h => h) (by assumption) ?_ ?_
            rotate_left
            · intro oi ho; cases ho; refine ⟨by rfl, ?_⟩; intro w hSw; (try dsimp only at hSw); go_simp; try with_reducible rfl
            (try simp only [Act.put, List.setIfInBounds_toArray, List.set_cons_zero, List.set_cons_succ])
            refine man_take 79 236 (v := ?_) ⟨_, rfl, rfl⟩ (by kernel_rfl) (by kernel_rfl) (by kernel_rfl) (fun _ _ _ h => h) (by assumption) ?_ ?_
            rotate_left
            · intro oi ho; cases ho; refine ⟨by rfl, ?_⟩; intro w hSw; (try dsimp only at hSw); go_simp; try with_reducible rfl
            (try simp only [Act.put, List.setIfInBounds_toArray, List.set_cons_zero, List.set_cons_succ])
            refine man_take 80 237 (v := ?_) ⟨_, rfl, rfl⟩ (by kernel_rfl) (by kernel_rfl) (by kernel_rfl) (fun _ _ _ h => h) (by assumption) ?_ ?_
            rotate_left
            · intro oi ho; cases ho; refine ⟨by rfl, ?_⟩; intro w hSw; (try dsimp only at hSw); go_simp; try with_reducible rfl
            (try simp only [Act.put, List.setIfInBounds_toArray, List.set_cons_zero, List.set_cons_succ])
            refine man_take 81 238 (v := ?_) ⟨_, rfl, rfl⟩ (by kernel_rfl) (by kernel_rfl) (by kernel_rfl) (fun _ _ _ h => h) (by assumption) ?_ ?_
            rotate_left
            · intro oi ho; cases ho; refine ⟨by rfl, ?_⟩; intro w hSw; (try dsimp only at hSw); go_simp; try with_reducible rfl
            (try simp only [Act.put, List.setIfInBounds_toArray, List.set_cons_zero, List.set_cons_succ])
            refine man_take 82 239 (v := ?_) ⟨_, rfl, rfl⟩ (by kernel_rfl) (by kernel_rfl) (by kernel_rfl) (fun _ _ _ h => h) (by assumption) ?_ ?_
            rotate_left
            · intro oi ho; cases ho; refine ⟨by rfl, ?_⟩; intro w hSw; (try dsimp only at hSw); go_simp; try with_reducible rfl
            (try simp only [Act.put, List.setIfInBounds_toArray, List.set_cons_zero, List.set_cons_succ])
            as_aux_lemma =>
            refine man_take 83 240 (v := ?_) ⟨_, rfl, rfl⟩ (by kernel_rfl) (by kernel_rfl) (by kernel_rfl) (fun _ _ _ h => h) (by assumption) ?_ ?_
            rotate_left
            · intro oi ho; cases ho; refine ⟨by rfl, ?_⟩; intro w hSw; (try dsimp only at hSw); go_simp; try with_reducible rfl
            (try simp only [Act.put, List.setIfInBounds_toArray, List.set_cons_zero, List.set_cons_succ])
            refine man_take 84 241 (v := ?_) ⟨_, rfl, rfl⟩ (by kernel_rfl) (by kernel_rfl) (by kernel_rfl) (fun _ _ _ h => h) (by assumption) ?_ ?_
            rotate_left
            · intro oi ho; cases ho; refine ⟨by rfl, ?_⟩; intro w hSw; (try dsimp only at hSw); go_simp; try with_reducible rfl
            (try simp only [Act.put, List.setIfInBounds_toArray, List.set_cons_zero, List.set_cons_succ])
            refine man_take 85 242 (v := ?_) ⟨_, rfl, rfl⟩ (by kernel_rfl) (by kernel_rfl) (by kernel_rfl) (fun _ _ _ h => h) (by assumption) ?_ ?_
            rotate_left
            · intro oi ho; cases ho; refine ⟨by rfl, ?_⟩; intro w hSw; (try dsimp only at hSw); go_simp; try with_reducible rfl
            (try simp only [Act.put, List.setIfInBounds_toArray, List.set_cons_zero, List.set_cons_succ])
            refine man_take 86 243 (v := ?_) ⟨_, rfl, rfl⟩ (by kernel_rfl) (by kernel_rfl) (by kernel_rfl) (fun _ _ _ h => h) (by assumption) ?_ ?_
            rotate_left
            · intro oi ho; cases ho; refine ⟨by rfl, ?_⟩; intro w hSw; (try dsimp only at hSw); go_simp; try with_reducible rfl
            (try simp only [Act.put, List.setIfInBounds_toArray, List.set_cons_zero, List.set_cons_succ])
            refine man_take 87 244 (v := ?_) ⟨_, rfl, rfl⟩ (by kernel_rfl) (by kernel_rfl) (by kernel_rfl) (fun _ _ _ h => h) (by assumption) ?_ ?_
            rotate_left
            · intro oi ho; cases ho; refine ⟨by rfl, ?_⟩; intro w hSw; (try dsimp only at hSw); go_simp; try with_reducible rfl
            (try simp only [Act.put, List.setIfInBounds_toArray, List.set_cons_zero, List.set_cons_succ])
            refine man_take 88 245 (v := ?_) ⟨_, rfl, rfl⟩ (by kernel_rfl) (by kernel_rfl) (by kernel_rfl) (fun _ _ _ h => h) (by assumption) ?_ ?_
            rotate_left
            · intro oi ho; cases ho; refine ⟨by rfl, ?_⟩; intro w hSw; (try dsimp only at hSw); go_simp; try with_reducible rfl
            (try simp only [Act.put, List.setIfInBounds_toArray, List.set_cons_zero, List.set_cons_succ])
            refine man_take 89 246 (v := ?_) ⟨_, rfl, rfl⟩ (by kernel_rfl) (by kernel_rfl) (by kernel_rfl) (fun _ _ _ h => h) (by assumption) ?_ ?_
            rotate_left
            · intro oi ho; cases ho; refine ⟨by rfl, ?_⟩; intro w hSw; (try dsimp only at hSw); go_simp; try with_reducible rfl
            (try simp only [Act.put, List.setIfInBounds_toArray, List.set_cons_zero, List.set_cons_succ])
            refine man_take 90 247 (v := ?_) ⟨_, rfl, rfl⟩ (by kernel_rfl) (by kernel_rfl) (by kernel_rfl) (fun _ _ _ h => h) (by assumption) ?_ ?_
            rotate_left
            · intro oi ho; cases ho; refine ⟨by rfl, ?_⟩; intro w hSw; (try dsimp only at hSw); go_simp; try with_reducible rfl
            (try simp only [Act.put, List.setIfInBounds_toArray, List.set_cons_zero, List.set_cons_succ])
            refine man_take 91 248 (v := ?_) ⟨_, rfl, rfl⟩ (by kernel_rfl) (by kernel_rfl) (by kernel_rfl) (fun _ _ _ h => h) (by assumption) ?_ ?_
            rotate_left
            · intro oi ho; cases ho; refine ⟨by rfl, ?_⟩; intro w hSw; (try dsimp only at hSw); go_simp; try with_reducible rfl
            (try simp only [Act.put, List.setIfInBounds_toArray, List.set_cons_zero, List.set_cons_succ])
            refine man_take 92 249 (v := ?_) ⟨_, rfl, rfl⟩ (by kernel_rfl) (by kernel_rfl) (by kernel_rfl) (fun _ _ _ h => h) (by assumption) ?_ ?_
            rotate_left
            · intro oi ho; cases ho; refine ⟨by rfl, ?_⟩; intro w hSw; (try dsimp only at hSw); go_simp; try with_reducible rfl
            (try simp only [Act.put, List.setIfInBounds_toArray, List.set_cons_zero, List.set_cons_succ])
            refine man_take 93 250 (v := ?_) ⟨_, rfl, rfl⟩ (by kernel_rfl) (by kernel_rfl) (by kernel_rfl) (fun _ _ _ h => h) (by assumption) ?_ ?_
            rotate_left
            · intro oi ho; cases ho; refine ⟨by rfl, ?_⟩; intro w hSw; (try dsimp only at hSw); go_simp; try with_reducible rfl
            (try simp only [Act.put, List.setIfInBounds_toArray, List.set_cons_zero, List.set_cons_succ])
            refine man_take 94 251 (v := ?_) ⟨_, rfl, rfl⟩ (by kernel_rfl) (by kernel_rfl) (by kernel_rfl) (fun _ _ _ h => h) (by assumption) ?_ ?_
            rotate_left
            · intro oi ho; cases ho; refine ⟨by rfl, ?_⟩; intro w hSw; (try dsimp only at hSw); go_simp; try with_reducible rfl
            (try simp only [Act.put, List.setIfInBounds_toArray, List.set_cons_zero, List.set_cons_succ])
            as_aux_lemma =>
            refine man_take 95 252 (v := ?_) ⟨_, rfl, rfl⟩ (by kernel_rfl) (by kernel_rfl) (by kernel_rfl) (fun _ _ _ h => h) (by assumption) ?_ ?_
            rotate_left
            · intro oi ho; cases ho; refine ⟨by rfl, ?_⟩; intro w hSw; (try dsimp only at hSw); go_simp; try with_reducible rfl
            (try simp only [Act.put, List.setIfInBounds_toArray, List.set_cons_zero, List.set_cons_succ])
            refine man_take 96 253 (v := ?_) ⟨_, rfl, rfl⟩ (by kernel_rfl) (by kernel_rfl) (by kernel_rfl) (fun _ _ _ h => h) (by assumption) ?_ ?_
            rotate_left
            · intro oi ho; cases ho; refine ⟨by rfl, ?_⟩; intro w hSw; (try dsimp only at hSw); go_simp; try with_reducible rfl
            (try simp only [Act.put, List.setIfInBounds_toArray, List.set_cons_zero, List.set_cons_succ])
            refine man_take 97 254 (v := ?_) ⟨_, rfl, rfl⟩ (by kernel_rfl) (by kernel_rfl) (by kernel_rfl) (fun _ _ _ h => h) (by assumption) ?_ ?_
            rotate_left
            · intro oi ho; cases ho; refine ⟨by rfl, ?_⟩; intro w hSw; (try dsimp only at hSw); go_simp; try with_reducible rfl
            (try simp only [Act.put, List.setIfInBounds_toArray, List.set_cons_zero, List.set_cons_succ])
            refine man_take 98 255 (v := ?_) ⟨_, rfl, rfl⟩ (by kernel_rfl) (by kernel_rfl) (by kernel_rfl) (fun _ _ _ h => h) (by assumption) ?_ ?_
            rotate_left
            · intro oi ho; cases ho; refine ⟨by rfl, ?_⟩; intro w hSw; (try dsimp only at hSw); go_simp; try with_reducible rfl
            (try simp only [Act.put, List.setIfInBounds_toArray, List.set_cons_zero, List.set_cons_succ])
            refine man_take 99 256 (v := ?_) ⟨_, rfl, rfl⟩ (by kernel_rfl) (by kernel_rfl) (by kernel_rfl) (fun _ _ _ h => h) (by assumption) ?_ ?_
            rotate_left
            · intro oi ho; cases ho; refine ⟨by rfl, ?_⟩; intro w hSw; (try dsimp only at hSw); go_simp; try with_reducible rfl
            (try simp only [Act.put, List.setIfInBounds_toArray, List.set_cons_zero, List.set_cons_succ])
            refine man_take 100 257 (v := ?_) ⟨_, rfl, rfl⟩ (by kernel_rfl) (by kernel_rfl) (by kernel_rfl) (fun _ _ _ h => h) (by assumption) ?_ ?_
            rotate_left
            · intro oi ho; cases ho; refine ⟨by rfl, ?_⟩; intro w hSw; (try dsimp only at hSw); go_simp; try with_reducible rfl
            (try simp only [Act.put, List.setIfInBounds_toArray, List.set_cons_zero, List.set_cons_succ])
            refine man_take 101 258 (v := ?_) ⟨_, rfl, rfl⟩ (by kernel_rfl) (by kernel_rfl) (by kernel_rfl) (fun _ _ _ h => h) (by assumption) ?_ ?_
            rotate_left
            · intro oi ho; cases ho; refine ⟨by rfl, ?_⟩; intro w hSw; (try dsimp only at hSw); go_simp; try with_reducible rfl
            (try simp only [Act.put, List.setIfInBounds_toArray, List.set_cons_zero, List.set_cons_succ])
            refine man_take 102 259 (v := ?_) ⟨_, rfl, rfl⟩ (by kernel_rfl) (by kernel_rfl) (by kernel_rfl) (fun _ _ _ h => h) (by assumption) ?_ ?_
            rotate_left
            · intro oi ho; cases ho; refine ⟨by rfl, ?_⟩; intro w hSw; (try dsimp only at hSw); go_simp; try with_reducible rfl
            (try simp only [Act.put, List.setIfInBounds_toArray, List.set_cons_zero, List.set_cons_succ])
            refine man_run 103 rfl (by kernel_rfl) (fun K hK => ?_)
            go_simp
            replace SD := ((SD.box #[.bool true, .bool true, .bool false, .bool true] 4).addRd (n := 4) (xs := ([true, true, false, true] : List Bool).map Value.bool) (rd_of_blk (Blk.new _ 4 #[.bool true, .bool true, .bool false, .bool true])))
            simp only [size_alloc1, List.nil_append, List.cons_append] at SD
            refine hK.out _ _ ?_ (fun hHeld => ?_)
            · (try dsimp only); exact ⟨(SD.blk 11 rfl).cell3, rd_one (SD.rd 9 rfl), rd_one (SD.rd 10 rfl)⟩
            clear hK K
            (try simp only [Act.put, List.setIfInBounds_toArray, List.set_cons_zero, List.set_cons_succ])
            refine man_run 104 rfl (by kernel_rfl) (fun K hK => ?_)
            go_simp
            refine (KG.out _ _ _ _).mono ?_
            rintro e w64 ⟨rfl, hb64⟩
            replace SD := SD.keep hb64
            go_wp2_with fail
            refine hK.out _ _ ?_ (fun hHeld => ?_)
            · (try dsimp only); exact ⟨(SD.blk 11 rfl).cell3, rd_one (SD.rd 9 rfl), rd_one (SD.rd 10 rfl)⟩
            clear hK K
            (try simp only [Act.put, List.setIfInBounds_toArray, List.set_cons_zero, List.set_cons_succ])
            refine man_run 105 rfl (by kernel_rfl) (fun K hK => ?_)
            go_simp
            refine (KSW.out _ _ _ _ _ _ _ (SD.rd 12 rfl) (SD.rd 18 rfl)).mono ?_
            rintro e w65 ⟨rfl, hb65⟩
            replace SD := SD.keep hb65
            go_wp2_with fail
            refine hK.out _ _ ?_ (fun hHeld => ?_)
            · (try dsimp only); exact ⟨(SD.blk 11 rfl).cell3, rd_one (SD.rd 9 rfl), rd_one (SD.rd 10 rfl)⟩
            clear hK K
            (try simp only [Act.put, List.setIfInBounds_toArray, List.set_cons_zero, List.set_cons_succ])
            refine man_take 106 263 (v := ?_) ⟨_, rfl, rfl⟩ (by kernel_rfl) (by kernel_rfl) (by kernel_rfl) (fun _ _ _ h => h) (by assumption) ?_ ?_
            rotate_left
            · intro oi ho; cases ho; refine ⟨by rfl, ?_⟩; intro w hSw; (try dsimp only at hSw); go_simp; try with_reducible rfl
            (try simp only [Act.put, List.setIfInBounds_toArray, List.set_cons_zero, List.set_cons_succ])
            as_aux_lemma =>
            refine man_take 107 0 (v := ?_) ⟨_, rfl, rfl⟩ (by kernel_rfl) (by kernel_rfl) (by kernel_rfl) (fun _ _ _ h => h) (by assumption) ?_ ?_
            rotate_left
            · intro oi ho; cases ho; refine ⟨by rfl, ?_⟩; intro w hSw; (try dsimp only at hSw); go_simp; try with_reducible rfl
            (try simp only [Act.put, List.setIfInBounds_toArray, List.set_cons_zero, List.set_cons_succ])
            refine wpAnyH_done (by kernel_rfl) ?_ _
            go_wp2_with fail
            go_ret
            exact ⟨by trivial, SD.below⟩
end Go.Proofs.Ytefeghpglacghaa
