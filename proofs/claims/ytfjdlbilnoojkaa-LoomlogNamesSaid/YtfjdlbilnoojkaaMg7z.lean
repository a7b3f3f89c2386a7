/- Parts of the proof, in their order. -/
import Derived.Test.YtfjdlbilnoojkaaSpoilP20z
import Derived.Test.YtfjdlbilnoojkaaReplayz
import Derived.Test.YtfjdlbilnoojkaaMendz
import Derived.Test.YtfjdlbilnoojkaaLifts20z
import Derived.Test.YtfjdlbilnoojkaaMendsPz
/- The chapter's examples in plain lists. Nothing here names a function of the program. -/
namespace Go.Proofs.Ytfjdlbilnoojkaa
open Go.RowKit

/-- Lifts of two shafts. -/
def lfB (l : List Int) : List Bool := bitsOf (l.map liftB)
theorem NoF.of {a b : List (List Bool)} {k : Nat} {q : Int} (h : ∀ k' < k + 1, ∀ q' ∈ ([1, 2, 3] : List Int), (k' < k ∨ (k' = k ∧ q' < q)) → ¬ faultAt a b q' k') : NoF a b k q := fun k' q' hq h2 =>
  h k' (by omega) q' (by rcases hq with rfl | rfl | rfl <;> decide) h2
theorem FindA.at_ {W H : Int} {bs : List Bool} {H2 : Int} {bt : List Bool} {q : Int} {k : Nat} (h : chkP W H bs.length = 0) (h2 : chkP W H2 bt.length = 0)
    (h3 : rowsB W.toNat H.toNat bs ≠ rowsB W.toNat H2.toNat bt ∧ k < (rowsB W.toNat H.toNat bs).length ∧ (q = 1 ∨ q = 2 ∨ q = 3) ∧ faultAt (rowsB W.toNat H.toNat bs) (rowsB W.toNat H2.toNat bt) q k)
    (h4 : ∀ k' < k + 1, ∀ q' ∈ ([1, 2, 3] : List Int), (k' < k ∨ (k' = k ∧ q' < q)) → ¬ faultAt (rowsB W.toNat H.toNat bs) (rowsB W.toNat H2.toNat bt) q' k') : FindA W H bs W H2 bt q k 0 := by
  unfold FindA
  rw [if_neg (by simpa using h), if_neg (by simpa using h2), if_neg (by simp)]
  exact .inr ⟨h3.1, .inl ⟨k, h3.2.1, rfl, h3.2.2.1, rfl, h3.2.2.2, NoF.of h4⟩⟩
theorem FindA.none_ {W H : Int} {bs : List Bool} {H2 : Int} {bt : List Bool} (h : chkP W H bs.length = 0) (h2 : chkP W H2 bt.length = 0)
    (h3 : rowsB W.toNat H.toNat bs ≠ rowsB W.toNat H2.toNat bt)
    (h4 : ∀ k' < (rowsB W.toNat H.toNat bs).length + 1, ∀ q' ∈ ([1, 2, 3] : List Int), (k' < (rowsB W.toNat H.toNat bs).length ∨ (k' = (rowsB W.toNat H.toNat bs).length ∧ q' < 1)) → ¬ faultAt (rowsB W.toNat H.toNat bs) (rowsB W.toNat H2.toNat bt) q' k') : FindA W H bs W H2 bt 0 0 6 := by
  unfold FindA
  rw [if_neg (by simpa using h), if_neg (by simpa using h2), if_neg (by simp)]
  exact .inr ⟨h3, .inr ⟨rfl, rfl, rfl, NoF.of h4⟩⟩
theorem FindA.same_ {W H : Int} {bs : List Bool} (h : chkP W H bs.length = 0) : FindA W H bs W H bs 0 0 0 := by
  unfold FindA
  rw [if_neg (by simpa using h), if_neg (by simpa using h), if_neg (by simp)]
  exact .inl ⟨rfl, rfl, rfl, rfl⟩
deriving instance DecidableEq for Gd
def kLog : List Ev := [(1, liftB 1), (1, liftB 2), (2, []), (1, liftB 3)]
theorem k_replay : replayG 2 kLog = (⟨2, 2, lfB [1, 3]⟩, 0) := by decide +kernel
theorem k_find : FindA 2 4 (lfB [1, 2, 2, 3]) 2 3 (lfB [1, 2, 3]) 1 1 0 := FindA.at_ (k := 1) (by decide +kernel) (by decide +kernel) (by decide +kernel) (by decide +kernel)
theorem k_mend : mendE 2 2 (lfB [1, 2]) [(1, liftB 1), (1, liftB 3)] = ([(2, []), (1, liftB 2)], 0) := by decide +kernel
/-- A log of a whole block. -/
theorem logR_of_blk {w : World} {g : Nat} {t : TypeId} {cs : Array Value} {l : List Ev} {n : Nat} (h : Blk w g t cs) (hn : l.length = n)
    (hc : ∀ i q r, l[i]? = some (q, r) → cs[i * 2]? = some (.int .u8 q) ∧ ∃ A c, cs[i * 2 + 1]? = some (.slice A r.length c) ∧ Rd w A r.length (r.map Value.bool)) : LogR w (some ⟨g, 0, none⟩) n l := by
  refine ⟨hn, fun _ => ⟨g, 0, rfl, h.lt, fun i q r hi => ?_⟩⟩
  obtain ⟨h1, A, c, h2, h3⟩ := hc i q r hi
  rw [Nat.zero_add]
  exact ⟨(h.cell _).trans h1, A, c, (h.cell _).trans h2, h3⟩
end Go.Proofs.Ytfjdlbilnoojkaa
/- The examples of the law LoomlogNames, in plain lists. Nothing here names a function of the program. -/
namespace Go.Proofs.Ytfjdlbilnoojkaa
open Go.RowKit

/-- k marks; k picks. -/
def marksL (k : Nat) : List Ev := List.replicate k ((3 : Int), ([] : List Bool))
def fullL (k : Nat) : List Ev := List.replicate k ((1 : Int), liftB 1)
theorem marksL_succ (k : Nat) : marksL (k + 1) = marksL k ++ [((3 : Int), ([] : List Bool))] := List.replicate_succ'
theorem fullL_succ (k : Nat) : fullL (k + 1) = fullL k ++ [((1 : Int), liftB 1)] := List.replicate_succ'
theorem marksL_len (k : Nat) : (marksL k).length = k := List.length_replicate
theorem fullL_len (k : Nat) : (fullL k).length = k := List.length_replicate
theorem marksL_take (k m : Nat) (h : m ≤ k) : (marksL k).take m = marksL m := by unfold marksL; rw [List.take_replicate, Nat.min_eq_left h]
theorem n_c1 : chkE 0 [] = 2 := by decide +kernel
theorem n_c2 : chkE 41 [] = 2 := by decide +kernel
theorem n_c3 : chkE 1 (marksL 401) = 4 := by decide +kernel
theorem n_c4 : chkE 1 (marksL 400) = 0 := by decide +kernel
theorem n_c5 : chkE 1 [(1, liftB 1)] = 8 := by decide +kernel
theorem n_c6 : chkE 2 [(4, [])] = 8 := by decide +kernel
theorem n_c7 : chkE 2 [(0, [])] = 8 := by decide +kernel
theorem n_c8 : chkE 2 [(2, liftB 1)] = 8 := by decide +kernel
theorem n_b : replayG 2 [(2, [])] = (Gd.zero, 36) := by decide +kernel
theorem n_c : replayG 2 (fullL 65) = (Gd.zero, 4) := by decide +kernel
theorem n_d : replayG 2 [] = (Gd.zero, 22) := by decide +kernel
theorem n_e : replayG 2 [(1, liftB 1), (2, [])] = (Gd.zero, 22) := by decide +kernel
theorem n_f : shortE 41 1 (List.replicate 41 false) = ([], 8) := by decide +kernel
theorem n_g : FindA 2 1 (lfB [1]) 0 0 [] 0 0 8 := by unfold FindA; rw [if_neg (by decide +kernel), if_pos (by decide +kernel)]; decide +kernel
theorem n_h : FindA 2 1 (lfB [1]) 3 1 (List.replicate 3 false) 0 0 26 := by unfold FindA; rw [if_neg (by decide +kernel), if_neg (by decide +kernel), if_pos (by decide +kernel)]; decide +kernel
theorem n_i : FindA 2 2 (lfB [1, 2]) 2 2 (lfB [2, 1]) 0 0 6 := FindA.none_ (by decide +kernel) (by decide +kernel) (by decide +kernel) (by decide +kernel)
theorem n_j : FindA 2 3 (lfB [1, 2, 3]) 2 1 (lfB [1]) 0 0 6 := FindA.none_ (by decide +kernel) (by decide +kernel) (by decide +kernel) (by decide +kernel)
theorem n_k : FindA 2 2 (lfB [1, 2]) 2 3 (lfB [1, 2, 2]) 2 1 0 := FindA.at_ (k := 1) (by decide +kernel) (by decide +kernel) (by decide +kernel) (by decide +kernel)
theorem n_m : FindA 2 3 (lfB [1, 1, 2]) 2 3 (lfB [1, 3, 2]) 3 1 0 := FindA.at_ (k := 1) (by decide +kernel) (by decide +kernel) (by decide +kernel) (by decide +kernel)
theorem n_o : FindA 2 2 (lfB [1, 2]) 2 2 (lfB [1, 2]) 0 0 0 := FindA.same_ (by decide +kernel)
theorem n_q : spoilG 2 1 (lfB [1]) 4 0 [] = (Gd.zero, 8) := by decide +kernel
theorem n_r : spoilG 2 1 (lfB [1]) 1 1 [] = (Gd.zero, 2) := by decide +kernel
theorem n_s : spoilG 2 1 (lfB [1]) 3 0 [] = (Gd.zero, 26) := by decide +kernel
theorem n_t : spoilG 2 1 (lfB [1]) 1 0 [] = (Gd.zero, 8) := by decide +kernel
theorem n_u : spoilG 2 64 (List.replicate 128 false) 2 0 [] = (Gd.zero, 4) := by decide +kernel
theorem n_v : spoilG 2 2 (lfB [1, 2]) 0 1 [] = (Gd.zero, 2) := by decide +kernel
theorem n_w : mendE 2 1 (lfB [1]) (marksL 400) = ([], 4) := by decide +kernel
theorem n_x : mendE 2 1 (lfB [1]) (marksL 399) = ([(1, liftB 1)], 0) := by decide +kernel
theorem n_z : mendE 2 1 (lfB [1]) [(2, [])] = ([], 36) := by decide +kernel
end Go.Proofs.Ytfjdlbilnoojkaa
