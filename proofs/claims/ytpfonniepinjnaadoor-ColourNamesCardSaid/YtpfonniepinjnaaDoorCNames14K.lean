/- The contracts of layer 14 at the examples of the law ColourNames. -/
import Derived.Test.YtpfonniepinjnaaDoorAliveC
import Derived.Test.YtpfonniepinjnaaDoorBackC
import Derived.Test.YtpfonniepinjnaaDoorEqualC
import Derived.Test.YtpfonniepinjnaaDoorIParse
import Derived.Test.YtpfonniepinjnaaDoorIText
import Derived.Test.YtpfonniepinjnaaDoorCounts
import Derived.Test.YtpfonniepinjnaaDoorErrG
import Derived.Deep.DeepMust
namespace Go.Proofs.YtpfonniepinjnaaDoor
open Go.RowKit

/-- An image that is not there, with its error. -/
def ErrI (t : Int) (w : World) (e : Ending) (w' : World) : Prop := ∃ A n c, e = .returned (.tuple #[.agg #[.int .i64 0, .int .i64 0, .slice A n c], .int .i64 t]) ∧ Below w.heap.size w w'
theorem errI_of {t : Int} {w w' : World} {e : Ending} (h : RetI (Im.zero, t) w e w') : ErrI t w e w' := by
  obtain ⟨A, n, c, rfl, _, hb⟩ := h
  exact ⟨A, n, c, rfl, hb⟩
theorem ck_to {v : Int} (m : Im) (h : chkI m = v) (A : Option Addr) (n c : Nat) (w : World) (hr : Rd w A n (m.c.map (Value.int .i64))) (hn : m.c.length ≤ 1048576) :
    Calls Tryd.prog 17 #[.agg #[.int .i64 m.w, .int .i64 m.h, .slice A n c]] w fun e w' => e = .returned (.int .i64 v) ∧ Below w.heap.size w w' := by
  have hl : m.c.length = n := by simpa using hr.len
  exact h ▸ checkI_any m A n c w hr (by omega)
theorem rd_of_blk {w : World} {g : Nat} {t : TypeId} {cs : Array Value} (h : Blk w g t cs) : Rd w (some ⟨g, 0, none⟩) cs.size cs.toList := rd_blk h
theorem St.worldF' {w w1 : World} {L : List Fact} (_ : St w L w1) : ∃ x, x = w1 := ⟨w1, rfl⟩
theorem mk_ints (n : Nat) : (madeCells #[Value.int .i64 0] n).toList = (List.replicate n (0 : Int)).map (Value.int .i64) := by
  rw [toList_madeCells_one]; simp
theorem rdi_mk (n : Nat) (W : World) : Rd (W.alloc (.cells (madeCells #[Value.int .i64 0] n) 3)) (some ⟨W.heap.size, 0, none⟩) n ((List.replicate n (0 : Int)).map (Value.int .i64)) := by
  have h := rd_of_blk (Blk.new W 3 (madeCells #[Value.int .i64 0] n))
  rw [size_madeCells, mk_ints] at h
  exact h
theorem make_i (n : Nat) (hn : n ≤ 1048576) (W : World) : (Instr.makeSlice 22 (.int .i64 (n : Int)) (.int .i64 (n : Int))).run Tryd.prog W = .ok (.slice (some ⟨W.heap.size, 0, none⟩) n n) (W.alloc (.cells (madeCells #[Value.int .i64 0] n) 3)) := run_make_row' (P := Tryd.prog) 22 3 (.int .i64 0) 8 Tryd.underlying22 Tryd.infoI rfl .i64 .i64 n (by omega) (by omega) W

theorem kc1 (A : Option Addr) (n c : Nat) (w : World) (hr : Rd w A n (([0, 0, 0] : List Int).map (Value.int .i64))) :
    Calls Tryd.prog 17 #[.agg #[.int .i64 2, .int .i64 2, .slice A n c]] w fun e w' => e = .returned (.int .i64 8) ∧ Below w.heap.size w w' :=
  ck_to ⟨2, 2, [0, 0, 0]⟩ (by decide +kernel) A n c w hr (by simp)
theorem kc2 (A : Option Addr) (n c : Nat) (w : World) (hr : Rd w A n (([0, 0, 0, 16] : List Int).map (Value.int .i64))) :
    Calls Tryd.prog 17 #[.agg #[.int .i64 2, .int .i64 2, .slice A n c]] w fun e w' => e = .returned (.int .i64 8) ∧ Below w.heap.size w w' :=
  ck_to ⟨2, 2, [0, 0, 0, 16]⟩ (by decide +kernel) A n c w hr (by simp)
theorem kc3 (A : Option Addr) (n c : Nat) (w : World) (hr : Rd w A n (([0, -1, 0, 0] : List Int).map (Value.int .i64))) :
    Calls Tryd.prog 17 #[.agg #[.int .i64 2, .int .i64 2, .slice A n c]] w fun e w' => e = .returned (.int .i64 8) ∧ Below w.heap.size w w' :=
  ck_to ⟨2, 2, [0, -1, 0, 0]⟩ (by decide +kernel) A n c w hr (by simp)
theorem kc4 (A : Option Addr) (n c : Nat) (w : World) (hr : Rd w A n ((List.replicate 65 0 : List Int).map (Value.int .i64))) :
    Calls Tryd.prog 17 #[.agg #[.int .i64 65, .int .i64 1, .slice A n c]] w fun e w' => e = .returned (.int .i64 8) ∧ Below w.heap.size w w' :=
  ck_to ⟨65, 1, List.replicate 65 0⟩ (by decide +kernel) A n c w hr (by show (List.replicate _ (0 : Int)).length ≤ _; rw [List.length_replicate]; omega)
theorem kc5 (A : Option Addr) (n c : Nat) (w : World) (hr : Rd w A n ((List.replicate 4096 0 : List Int).map (Value.int .i64))) :
    Calls Tryd.prog 17 #[.agg #[.int .i64 64, .int .i64 64, .slice A n c]] w fun e w' => e = .returned (.int .i64 0) ∧ Below w.heap.size w w' :=
  ck_to ⟨64, 64, List.replicate 4096 0⟩ (by decide +kernel) A n c w hr (by show (List.replicate _ (0 : Int)).length ≤ _; rw [List.length_replicate]; omega)
theorem kc0 (w : World) : Calls Tryd.prog 17 #[.agg #[.int .i64 0, .int .i64 0, .slice none 0 0]] w fun e w' => e = .returned (.int .i64 8) ∧ Below w.heap.size w w' := ck_to ⟨0, 0, []⟩ (by decide +kernel) none 0 0 w Rd.nil_ (by simp)
theorem thr_ne {g : Gd} {p q : List Int} {t : Int} (k : Nat → Nat → Im × Int) (h : thr g p q = t) (ht : t ≠ 0) : withThr g p q k = (Im.zero, t) := by
  unfold withThr
  rw [if_neg (by rw [h]; exact ht), h]
theorem kf0 (w : World) : Calls Tryd.prog 19 #[.agg #[.int .i64 0, .int .i64 0, .slice none 0 0], .slice none 0 0, .slice none 0 0] w (ErrI 8 w) := by
  have h := front_any Gd.zero [] [] none none none 0 0 0 0 0 0 w Rd.nil_ Rd.nil_ Rd.nil_
  rw [show frontI Gd.zero [] [] = (Im.zero, 8) from thr_ne _ (by decide +kernel) (by decide)] at h
  exact h.mono fun _ _ h => errI_of h
theorem kb1 (A Ap Aq : Option Addr) (n c np cp nq cq : Nat) (w : World) (hr : Rd w A n (plainGd.bits.map Value.bool)) (hp : Rd w Ap np (([0] : List Int).map (Value.int .i64))) (hq : Rd w Aq nq (([0, 1] : List Int).map (Value.int .i64))) :
    Calls Tryd.prog 19 #[.agg #[.int .i64 2, .int .i64 2, .slice A n c], .slice Ap np cp, .slice Aq nq cq] w (ErrI 26 w) := by
  have h := front_any plainGd [0] [0, 1] A Ap Aq n c np cp nq cq w hr hp hq
  rw [show frontI plainGd [0] [0, 1] = (Im.zero, 26) from thr_ne _ (by decide +kernel) (by decide)] at h
  exact h.mono fun _ _ h => errI_of h
theorem kb2 (A Ap Aq : Option Addr) (n c np cp nq cq : Nat) (w : World) (hr : Rd w A n (plainGd.bits.map Value.bool)) (hp : Rd w Ap np (([0, 16] : List Int).map (Value.int .i64))) (hq : Rd w Aq nq (([0, 1] : List Int).map (Value.int .i64))) :
    Calls Tryd.prog 21 #[.agg #[.int .i64 2, .int .i64 2, .slice A n c], .slice Ap np cp, .slice Aq nq cq] w (ErrI 8 w) := by
  have h := back_any plainGd [0, 16] [0, 1] A Ap Aq n c np cp nq cq w hr hp hq
  rw [show backI plainGd [0, 16] [0, 1] = (Im.zero, 8) from thr_ne _ (by decide +kernel) (by decide)] at h
  exact h.mono fun _ _ h => errI_of h
theorem kb3 (A Ap Aq : Option Addr) (n c np cp nq cq : Nat) (w : World) (hr : Rd w A n (plainGd.bits.map Value.bool)) (hp : Rd w Ap np (([0, 16] : List Int).map (Value.int .i64))) (hq : Rd w Aq nq (([0] : List Int).map (Value.int .i64))) :
    Calls Tryd.prog 21 #[.agg #[.int .i64 2, .int .i64 2, .slice A n c], .slice Ap np cp, .slice Aq nq cq] w (ErrI 26 w) := by
  have h := back_any plainGd [0, 16] [0] A Ap Aq n c np cp nq cq w hr hp hq
  rw [show backI plainGd [0, 16] [0] = (Im.zero, 26) from thr_ne _ (by decide +kernel) (by decide)] at h
  exact h.mono fun _ _ h => errI_of h
theorem kb4 (A Ap Aq : Option Addr) (n c np cp nq cq : Nat) (w : World) (hr : Rd w A n (plainGd.bits.map Value.bool)) (hp : Rd w Ap np (([0, 1] : List Int).map (Value.int .i64))) (hq : Rd w Aq nq (([2, 3] : List Int).map (Value.int .i64))) :
    Calls Tryd.prog 21 #[.agg #[.int .i64 2, .int .i64 2, .slice A n c], .slice Ap np cp, .slice Aq nq cq] w (RetI (⟨2, 2, [1, 2, 3, 0]⟩, 0) w) := by
  have h := back_any plainGd [0, 1] [2, 3] A Ap Aq n c np cp nq cq w hr hp hq
  rw [show backI plainGd [0, 1] [2, 3] = (⟨2, 2, [1, 2, 3, 0]⟩, 0) by rfl] at h
  exact h
theorem ke1 (Aq : Option Addr) (nq cq : Nat) (w : World) (hq : Rd w Aq nq (([0] : List Int).map (Value.int .i64))) : Calls Tryd.prog 22 #[.slice none 0 0, .slice Aq nq cq] w (ErrG 26 w) := by
  have h := equal_any [] [0] none Aq 0 0 nq cq w Rd.nil_ hq
  rw [show equalG [] [0] = (Gd.zero, 26) by rfl] at h
  exact h.mono fun _ _ h => errG_of h
theorem ke2 (Ap Aq : Option Addr) (np cp nq cq : Nat) (w : World) (hp : Rd w Ap np (([16] : List Int).map (Value.int .i64))) (hq : Rd w Aq nq ((List.replicate 65 (0 : Int)).map (Value.int .i64))) : Calls Tryd.prog 22 #[.slice Ap np cp, .slice Aq nq cq] w (ErrG 26 w) := by
  have h := equal_any [16] (List.replicate 65 0) Ap Aq np cp nq cq w hp hq
  rw [equalG_one (by simp)] at h
  exact h.mono fun _ _ h => errG_of h
theorem ke3 (Ap Aq : Option Addr) (np cp nq cq : Nat) (w : World) (hp : Rd w Ap np (([16] : List Int).map (Value.int .i64))) (hq : Rd w Aq nq (([0] : List Int).map (Value.int .i64))) : Calls Tryd.prog 22 #[.slice Ap np cp, .slice Aq nq cq] w (ErrG 8 w) := by
  have h := equal_any [16] [0] Ap Aq np cp nq cq w hp hq
  rw [equalG_two (by simp) (by decide)] at h
  exact h.mono fun _ _ h => errG_of h
def txts : List (List UInt8) := [[], [97], [10], [97, 98, 10, 97, 10], [113, 10], [65, 10], [97, 10, 10], [97, 98, 10, 99, 100]]
theorem txts_bad : ∀ k, k < 8 → parseI (txts.getD k []) = (Im.zero, 12)
  | 0, _ => rfl
  | 1, _ => rfl
  | 2, _ => rfl
  | 3, _ => rfl
  | 4, _ => rfl
  | 5, _ => rfl
  | 6, _ => rfl
  | 7, _ => rfl
  | k + 8, h => absurd h (by omega)
theorem txts_len : ∀ k, k < 8 → (txts.getD k []).length ≤ 5
  | 0, _ => by decide
  | 1, _ => by decide
  | 2, _ => by decide
  | 3, _ => by decide
  | 4, _ => by decide
  | 5, _ => by decide
  | 6, _ => by decide
  | 7, _ => by decide
  | k + 8, h => absurd h (by omega)
theorem kp_bad (k : Nat) (hk : k < 8) (w : World) : Calls Tryd.prog 6 #[str (txts.getD k [])] w (ErrI 12 w) := by
  have h := iparse_any (txts.getD k []) w (by have := txts_len k hk; omega)
  rw [txts_bad k hk] at h
  exact h.mono fun _ _ h => errI_of h
theorem kp_good (w : World) : Calls Tryd.prog 6 #[.string ⟨#[112, 97, 10, 98, 99, 10]⟩] w (RetI (⟨2, 2, [1, 2, 15, 0]⟩, 0) w) := by
  have h := iparse_any [112, 97, 10, 98, 99, 10] w (by decide)
  rw [show parseI [112, 97, 10, 98, 99, 10] = (⟨2, 2, [1, 2, 15, 0]⟩, 0) by rfl] at h
  exact h
theorem kt (A : Option Addr) (w : World) (hr : Rd w A 4 (([1, 2, 15, 0] : List Int).map (Value.int .i64))) : Calls Tryd.prog 12 #[.agg #[.int .i64 2, .int .i64 2, .slice A 4 4]] w fun e w' => e = .returned (.tuple #[.string ⟨#[112, 97, 10, 98, 99, 10]⟩, .int .i64 0]) ∧ Below w.heap.size w w' := by
  have h := itext_any ⟨2, 2, [1, 2, 15, 0]⟩ A 4 4 w hr (by omega) (by omega)
  rw [show textI ⟨2, 2, [1, 2, 15, 0]⟩ = ([112, 97, 10, 98, 99, 10], 0) by rfl] at h
  exact h
theorem kn (A : Option Addr) (n c : Nat) (w : World) (hr : Rd w A n (([1, 2, 15, 1] : List Int).map (Value.int .i64))) : Calls Tryd.prog 14 #[.agg #[.int .i64 2, .int .i64 2, .slice A n c]] w (RetL ([0, 2, 1, 0, 0, 0, 0, 0, 0, 0, 0, 0, 0, 0, 0, 1], 0) w) := by
  have hl : n = 4 := by have := hr.len; simpa using this.symm
  have h := counts_any ⟨2, 2, [1, 2, 15, 1]⟩ A n c w hr (by omega)
  rw [show countsI ⟨2, 2, [1, 2, 15, 1]⟩ = ([0, 2, 1, 0, 0, 0, 0, 0, 0, 0, 0, 0, 0, 0, 0, 1], 0) by rfl] at h
  exact h
theorem ks1 (A A2 : Option Addr) (n c n2 c2 : Nat) (w : World) (hr : Rd w A n (([1, 2, 3, 0] : List Int).map (Value.int .i64))) (hr2 : Rd w A2 n2 (([1, 2, 3, 0] : List Int).map (Value.int .i64))) : Calls Tryd.prog 8 #[.agg #[.int .i64 2, .int .i64 2, .slice A n c], .agg #[.int .i64 2, .int .i64 2, .slice A2 n2 c2]] w fun e w' => e = .returned (.bool true) ∧ Below w.heap.size w w' := by
  have hl : n = 4 := by have := hr.len; simpa using this.symm
  exact rsameI_to ⟨2, 2, [1, 2, 3, 0]⟩ ⟨2, 2, [1, 2, 3, 0]⟩ (sameI_self _) A A2 n c n2 c2 w hr hr2 (by omega)
theorem ks2 (A A2 : Option Addr) (n c n2 c2 : Nat) (w : World) (hr : Rd w A n (([1, 2, 15, 0] : List Int).map (Value.int .i64))) (hr2 : Rd w A2 n2 (([1, 2, 15, 0] : List Int).map (Value.int .i64))) : Calls Tryd.prog 8 #[.agg #[.int .i64 2, .int .i64 2, .slice A n c], .agg #[.int .i64 2, .int .i64 2, .slice A2 n2 c2]] w fun e w' => e = .returned (.bool true) ∧ Below w.heap.size w w' := by
  have hl : n = 4 := by have := hr.len; simpa using this.symm
  exact rsameI_to ⟨2, 2, [1, 2, 15, 0]⟩ ⟨2, 2, [1, 2, 15, 0]⟩ (sameI_self _) A A2 n c n2 c2 w hr hr2 (by omega)
end Go.Proofs.YtpfonniepinjnaaDoor
