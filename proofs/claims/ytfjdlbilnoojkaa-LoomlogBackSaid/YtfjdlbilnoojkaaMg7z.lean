/- Parts of the proof, in their order. -/
import Derived.Test.YtfjdlbilnoojkaaSpoilP20z
import Derived.Test.YtfjdlbilnoojkaaReplayz
import Derived.Test.YtfjdlbilnoojkaaMendz
import Derived.Test.YtfjdlbilnoojkaaLifts20z
import Derived.Test.YtfjdlbilnoojkaaCommonz
/- The chapter's examples in plain lists. Nothing here names a function of the program. -/
namespace Go.Proofs.Ytfjdlbilnoojkaa
open Go.RowKit

/-- Lifts of two shafts. -/
def lfB (l : List Int) : List Bool := bitsOf (l.map liftB)
theorem NoF.of {a b : List (List Bool)} {k : Nat} {q : Int} (h : ∀ k' < k + 1, ∀ q' ∈ ([1, 2, 3] : List Int), (k' < k ∨ (k' = k ∧ q' < q)) → ¬ faultAt a b q' k') : NoF a b k q := fun k' q' hq h2 =>
  h k' (by omega) q' (by rcases hq with rfl | rfl | rfl <;> decide) h2
theorem FindA.at_ {W H : Int} {bs : List Bool} {H2 : Int} {bt : List Bool} {q : Int} {k : Nat} (h : chkP W H bs.length = 0) (h2 : chkP W H2 bt.length = 0)
    (h3 : rowsB W.toNat H.toNat bs ≠ rowsB W.toNat H2.toNat bt ∧ k < (rowsB W.toNat H.toNat bs).length ∧ (q = 1 ∨ q = 2 ∨ q = 3) ∧ faultAt (rowsB W.toNat H.toNat bs) (rowsB W.toNat H2.toNat bt) q k)
    (h4 : ∀ k' < k + 1, ∀ q' ∈ ([1, 2, 3] : List Int), (k' < k ∨ (k' = k ∧ q' < q)) → ¬ faultAt (rowsB W.toNat H.toNat bs) (rowsB W.toNat H2.toNat bt) q' k') : FindA W H bs W H2 bt q k 0 := by
  unfold FindA
  rw [if_neg (by simpa using h), if_neg (by simpa using h2), if_neg (by simp)]
  exact .inr ⟨h3.1, .inl ⟨k, h3.2.1, rfl, h3.2.2.1, rfl, h3.2.2.2, NoF.of h4⟩⟩
theorem FindA.none_ {W H : Int} {bs : List Bool} {H2 : Int} {bt : List Bool} (h : chkP W H bs.length = 0) (h2 : chkP W H2 bt.length = 0)
    (h3 : rowsB W.toNat H.toNat bs ≠ rowsB W.toNat H2.toNat bt)
    (h4 : ∀ k' < (rowsB W.toNat H.toNat bs).length + 1, ∀ q' ∈ ([1, 2, 3] : List Int), (k' < (rowsB W.toNat H.toNat bs).length ∨ (k' = (rowsB W.toNat H.toNat bs).length ∧ q' < 1)) → ¬ faultAt (rowsB W.toNat H.toNat bs) (rowsB W.toNat H2.toNat bt) q' k') : FindA W H bs W H2 bt 0 0 6 := by
  unfold FindA
  rw [if_neg (by simpa using h), if_neg (by simpa using h2), if_neg (by simp)]
  exact .inr ⟨h3, .inr ⟨rfl, rfl, rfl, NoF.of h4⟩⟩
theorem FindA.same_ {W H : Int} {bs : List Bool} (h : chkP W H bs.length = 0) : FindA W H bs W H bs 0 0 0 := by
  unfold FindA
  rw [if_neg (by simpa using h), if_neg (by simpa using h), if_neg (by simp)]
  exact .inl ⟨rfl, rfl, rfl, rfl⟩
deriving instance DecidableEq for Gd
def kLog : List Ev := [(1, liftB 1), (1, liftB 2), (2, []), (1, liftB 3)]
theorem k_replay : replayG 2 kLog = (⟨2, 2, lfB [1, 3]⟩, 0) := by decide +kernel
theorem k_find : FindA 2 4 (lfB [1, 2, 2, 3]) 2 3 (lfB [1, 2, 3]) 1 1 0 := FindA.at_ (k := 1) (by decide +kernel) (by decide +kernel) (by decide +kernel) (by decide +kernel)
theorem k_mend : mendE 2 2 (lfB [1, 2]) [(1, liftB 1), (1, liftB 3)] = ([(2, []), (1, liftB 2)], 0) := by decide +kernel
/-- A log of a whole block. -/
theorem logR_of_blk {w : World} {g : Nat} {t : TypeId} {cs : Array Value} {l : List Ev} {n : Nat} (h : Blk w g t cs) (hn : l.length = n)
    (hc : ∀ i q r, l[i]? = some (q, r) → cs[i * 2]? = some (.int .u8 q) ∧ ∃ A c, cs[i * 2 + 1]? = some (.slice A r.length c) ∧ Rd w A r.length (r.map Value.bool)) : LogR w (some ⟨g, 0, none⟩) n l := by
  refine ⟨hn, fun _ => ⟨g, 0, rfl, h.lt, fun i q r hi => ?_⟩⟩
  obtain ⟨h1, A, c, h2, h3⟩ := hc i q r hi
  rw [Nat.zero_add]
  exact ⟨(h.cell _).trans h1, A, c, (h.cell _).trans h2, h3⟩
end Go.Proofs.Ytfjdlbilnoojkaa
/- loomlog.same: whether two lists of picks are equal. -/
namespace Go.Proofs.Ytfjdlbilnoojkaa
open Go.RowKit

theorem ret_s20 {a b : Bool} (h : a = b) : Ending.returned (.bool a) = Ending.returned (.bool b) := by rw [h]
set_option maxHeartbeats 2000000 in
theorem same20_any (a b : List (List Bool)) (A B : Option Addr) (na nb ca cb : Nat) (w : World) (hna : a.length = na) (hnb : b.length = nb) (ha : LRB w A a) (hb : LRB w B b) (hla : ∀ r ∈ a, r.length ≤ 64) (h1 : na ≤ 1000) :
    Calls Try.prog 45 #[.slice A na ca, .slice B nb cb] w fun e w' => e = .returned (.bool (decide (a = b))) ∧ Below w.heap.size w w' := by
  by_cases hn : na = nb
  · subst hn
    have HC := Lib.hid (common_any a b A B na na ca cb w hna hnb ha hb hla h1)
    have HS := Lib.hid (show decide (a = b) = decide (comL a b = na) from decide_eq_decide.2 (by rw [← com_same (hna.trans hnb.symm), hna]))
    have hle := (com_le a b).1
    rw [hna] at hle
    clear hna hnb ha hb hla
    generalize comL a b = k at *
    generalize decide (a = b) = d at *
    go_enter Try.func45, Try.ntmps45
    go_wp2_with fail
    refine HC.out.mono ?_
    rintro e w1 ⟨rfl, m, rfl⟩
    by_cases hk : k = na
    · have hkb : ((k : Int) == (na : Int)) = true := by simp [hk]
      rw [decide_eq_true hk] at HS
      have HS2 := Lib.hid HS.out
      clear hk
      go_wp2_with fail
      go_ret
      exact ⟨ret_s20 HS2.out.symm, below_drewN (Below.refl _ _) m⟩
    · have hkb : ((k : Int) == (na : Int)) = false := by simp; omega
      rw [decide_eq_false hk] at HS
      have HS2 := Lib.hid HS.out
      clear hk
      go_wp2_with fail
      go_ret
      exact ⟨ret_s20 HS2.out.symm, below_drewN (Below.refl _ _) m⟩
  · have hkb : ((na : Int) == (nb : Int)) = false := by simp; omega
    have HS := Lib.hid (show decide (a = b) = false from decide_eq_false (fun e => hn (by rw [← hna, ← hnb, e])))
    go_enter Try.func45, Try.ntmps45
    go_wp2_with fail
    go_ret
    exact ⟨ret_s20 HS.out.symm, Below.refl _ _⟩
end Go.Proofs.Ytfjdlbilnoojkaa
