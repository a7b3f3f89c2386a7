/- Parts of the proof, in their order. -/
import Derived.Test.YtmajmbfbnchbfaaLibz
import Derived.Laws.OwnMore
import Derived.Test.YtmajmbfbnchbfaaProg
import Derived.KernelRfl
import Derived.Handy
import Derived.Outline
/- What stands in memory as a list of facts, carried from call to call at once. Nothing here names a function of the program. -/
namespace Go.Proofs.Ytmajmbfbnchbfaa
open Go.RowKit

theorem size_alloc1 (w : World) (o : Obj) : (w.alloc o).heap.size = w.heap.size + 1 := by simp

/-- What is read at an address that is known. -/
theorem Rd.lit {w : World} {b o n : Nat} {xs : List Value} (h : Rd w (some ⟨b, o, none⟩) n xs) : ∀ j u, xs[j]? = some u → w.cell? ⟨b, o + j, none⟩ = some u := fun j u hu => by
  have hn : 0 < n := by
    have h1 := (List.getElem?_eq_some_iff.1 hu).1
    have h2 := h.1
    omega
  obtain ⟨b', o', hA, hc⟩ := h.2 hn
  injection hA with e
  injection e with e1 e2
  subst e1 e2
  exact hc j u hu

/-- A block known whole, or a slice that reads some values. -/
inductive Fact where
  | blk (g : Nat) (t : TypeId) (cs : Array Value)
  | rd (A : Option Addr) (n : Nat) (xs : List Value)
def Fact.At : Fact → World → Prop
  | .blk g t cs, w => Blk w g t cs
  | .rd A n xs, w => Rd w A n xs

theorem Fact.keep {f : Fact} {w w' : World} (h : f.At w) (hb : Below w.heap.size w w') : f.At w' := by
  cases f with
  | blk g t cs => exact Blk.keep h hb
  | rd A n xs => exact Rd.below h hb
theorem Fact.drew {f : Fact} {w : World} (h : f.At w) : f.At w.drew := by
  cases f with
  | blk g t cs => exact Blk.drew h
  | rd A n xs => exact Rd.drew h
theorem Fact.drewN {f : Fact} {w : World} (h : f.At w) (k : Nat) : f.At (w.drewN k) := by
  cases f with
  | blk g t cs => exact Blk.drewN h k
  | rd A n xs => exact Rd.drewN h k

/-- All facts of a list hold, and nothing that was there in w has turned. -/
def St (w : World) (L : List Fact) (wi : World) : Prop := Below w.heap.size w wi ∧ ∀ f ∈ L, f.At wi

section
variable {w w1 w2 : World} {L : List Fact}
theorem St.start (w : World) : St w [] w := ⟨Below.refl _ _, by simp⟩
theorem St.below (h : St w L w1) : Below w.heap.size w w1 := h.1
theorem St.size (h : St w L w1) : w.heap.size ≤ w1.heap.size := h.1.size
theorem St.keep (h : St w L w1) (hb : Below w1.heap.size w1 w2) : St w L w2 := ⟨below_then h.1 hb, fun f hf => Fact.keep (h.2 f hf) hb⟩
theorem St.drew (h : St w L w1) : St w L w1.drew := ⟨h.1.drew, fun f hf => Fact.drew (h.2 f hf)⟩
theorem St.drewN (h : St w L w1) (k : Nat) : St w L (w1.drewN k) := ⟨below_drewN h.1 k, fun f hf => Fact.drewN (h.2 f hf) k⟩
theorem St.get (h : St w L w1) (i : Nat) {f : Fact} (e : L[i]? = some f) : f.At w1 := h.2 f (List.mem_of_getElem? e)
theorem St.blk (h : St w L w1) (i : Nat) {g : Nat} {t : TypeId} {cs : Array Value} (e : L[i]? = some (.blk g t cs)) : Blk w1 g t cs := h.get i e
theorem St.rd (h : St w L w1) (i : Nat) {A : Option Addr} {n : Nat} {xs : List Value} (e : L[i]? = some (.rd A n xs)) : Rd w1 A n xs := h.get i e
theorem St.add (h : St w L w1) {f : Fact} (hf : f.At w1) : St w (L ++ [f]) w1 := ⟨h.1, fun k hk => by
  rcases List.mem_append.1 hk with h1 | h1
  · exact h.2 k h1
  · rw [List.mem_singleton.1 h1]; exact hf⟩
theorem St.addRd (h : St w L w1) {A : Option Addr} {n : Nat} {xs : List Value} (hr : Rd w1 A n xs) : St w (L ++ [.rd A n xs]) w1 := h.add (f := .rd A n xs) hr
theorem St.addBlk (h : St w L w1) {g : Nat} {t : TypeId} {cs : Array Value} (hr : Blk w1 g t cs) : St w (L ++ [.blk g t cs]) w1 := h.add (f := .blk g t cs) hr
theorem St.alloc (h : St w L w1) (o : Obj) : St w L (w1.alloc o) := h.keep ((Below.refl _ _).alloc (Nat.le_refl _) o)
theorem St.box (h : St w L w1) (cs : Array Value) (t : TypeId) : St w (L ++ [.blk w1.heap.size t cs]) (w1.alloc (.cells cs t)) := (h.alloc _).addBlk (Blk.new w1 t cs)
/-- The facts with some of these indices alone, in this order. -/
theorem St.sub (h : St w L w1) {L' : List Fact} (hs : ∀ f ∈ L', f ∈ L) : St w L' w1 := ⟨h.1, fun f hf => h.2 f (hs f hf)⟩
end
/-- A block of the call's own is a row of it. -/
theorem own_of_blk {w : World} {g base : Nat} {e : TypeId} {cs : Array Value} (h : Blk w g e cs) (hb : base ≤ g) (hm : cs.size ≤ maxLen) : w.ownsRow base e 1 (.slice (some ⟨g, 0, none⟩) cs.size cs.size) cs.size cs.toList :=
  ⟨by simp, .inr ⟨g, cs.size, cs, rfl, hb, h, Nat.le_refl _, hm, by simp, List.take_of_length_le (by simp)⟩⟩
end Go.Proofs.Ytmajmbfbnchbfaa
/- thread.Check: the error of a short list of small numbers is none. -/
namespace Go.Proofs.Ytmajmbfbnchbfaa
open Go.RowKit

theorem int_cell {w : World} {b o n i : Nat} {l : List Int} (h : Rd w (some ⟨b, o, none⟩) n (l.map (Value.int .i64))) (hi : i < n) : w.cell? ⟨b, o + i, none⟩ = some (.int .i64 (l.getD i 0)) := by
  have hl : l.length = n := by simpa using h.len
  exact h.lit i _ (by rw [List.getElem?_map, List.getElem?_eq_getElem (by omega)]; simp [List.getD, show i < l.length by omega])
set_option maxHeartbeats 1000000 in
set_option maxRecDepth 100000 in
theorem tcheck_any (l : List Int) (b o n c : Nat) (w : World) (hr : Rd w (some ⟨b, o, none⟩) n (l.map (Value.int .i64))) (hn : n ≤ 400) (hx : ∀ x ∈ l, 0 ≤ x ∧ x < 400) :
    Calls Try.prog 60 #[.slice (some ⟨w.heap.size, 0, none⟩) 1 1] (w.alloc (.cells #[.slice (some ⟨b, o, none⟩) n c] 22)) fun e w' => e = .returned (.int .i64 0) ∧ Below (w.heap.size + 1) (w.alloc (.cells #[.slice (some ⟨b, o, none⟩) n c] 22)) w' := by
  have S0 := (St.start (w.alloc (.cells #[.slice (some ⟨b, o, none⟩) n c] 22))).addBlk (Blk.new w 22 #[.slice (some ⟨b, o, none⟩) n c])
  have S0 := S0.addRd (hr.alloc _)
  simp only [List.nil_append, List.cons_append] at S0
  have hl : l.length = n := by simpa using hr.len
  have HX := Lib.hid (fun i (hi : i < n) => hx (l.getD i 0) (by rw [List.getD_eq_getElem?_getD, List.getElem?_eq_getElem (by omega)]; exact List.getElem_mem _))
  generalize hW : w.alloc (.cells #[.slice (some ⟨b, o, none⟩) n c] 22) = W at *
  have hWs : W.heap.size = w.heap.size + 1 := by rw [← hW]; simp
  clear hr hx
  have k0 := (S0.blk 0 rfl).cell 0
  go_enter Try.func60, Try.ntmps60
  go_wp2_with fail
  go_loopw [9] (fun i wr => (i = .int .i64 0 ∨ i = .int .i64 1) ∧ St W [Fact.blk w.heap.size 22 #[.slice (some ⟨b, o, none⟩) n c], Fact.rd (some ⟨b, o, none⟩) n (l.map (Value.int .i64))] wr) (fun i _ => 1 - (intOf i).toNat)
  case atStart => exact ⟨.inl rfl, S0⟩
  case round =>
    obtain ⟨hi, T1⟩ := hrel
    clear S0 k0
    have k0 := (T1.blk 0 rfl).cell 0
    rcases hi with rfl | rfl
    · go_wp2_with fail
      have hd4 : decide (400 < (n : Int)) = false := decide_eq_false (by omega)
      have hd4n : decide (400 < n) = false := decide_eq_false (by omega)
      go_wp2_with fail
      go_loopw [18] (fun i wz => ∃ k : Nat, k ≤ n ∧ i = .int .i64 k ∧ St W [Fact.blk w.heap.size 22 #[.slice (some ⟨b, o, none⟩) n c], Fact.rd (some ⟨b, o, none⟩) n (l.map (Value.int .i64))] wz) (fun i _ => n - (intOf i).toNat)
      case atStart => exact ⟨0, Nat.zero_le _, rfl, T1⟩
      case round =>
        obtain ⟨k, hk, rfl, T2⟩ := hrel
        clear T1 k0
        by_cases hlt : k < n
        · have q0 := int_cell (T2.rd 1 rfl) hlt
          obtain ⟨hx0, hx1⟩ := HX.out k hlt
          generalize l.getD k 0 = v at *
          have hv1 : decide (v < 0) = false := decide_eq_false (by omega)
          have hv2 : decide (400 ≤ v) = false := decide_eq_false (by omega)
          go_wp2_with fail
          go_roundw
          case rel => exact ⟨k + 1, by omega, by go_num, T2⟩
          case measure => simp [intOf]; omega
        · obtain rfl : k = n := by omega
          go_wp2_with fail
          go_roundw
          case rel => exact ⟨.inr rfl, T2⟩
          case measure => simp [intOf]
    · go_wp2_with fail
      go_ret
      exact ⟨rfl, hWs ▸ T1.below⟩
theorem thrcheck_any (l : List Int) (b o n c : Nat) (w : World) (hr : Rd w (some ⟨b, o, none⟩) n (l.map (Value.int .i64))) (hn : n ≤ 400) (hx : ∀ x ∈ l, 0 ≤ x ∧ x < 400) :
    Calls Try.prog 51 #[.slice (some ⟨b, o, none⟩) n c] w fun e w' => e = .returned (.int .i64 0) ∧ Below w.heap.size w w' := by
  have HC := Lib.hid (tcheck_any l b o n c w hr hn hx)
  go_enter Try.func51, Try.ntmps51
  go_wp2_with fail
  refine HC.out.mono ?_
  rintro e w1 ⟨rfl, hb1⟩
  go_wp2_with fail
  go_ret
  exact ⟨rfl, ((Below.refl _ _).alloc (Nat.le_refl _) _).trans (hb1.mono (Nat.le_succ _))⟩
end Go.Proofs.Ytmajmbfbnchbfaa
