/- loomlog.common and same: how many picks two lists have in common; lists that read the same. -/
import Derived.Test.YtfjdlbilnoojkaaConcatBz
import Derived.Test.YtfjdlbilnoojkaaEqsz
import Derived.BigQuiet
namespace Go.Proofs.Ytfjdlbilnoojkaa
open Go.RowKit

/-- How many picks two lists have in common, from the first one on. -/
def comL : List (List Bool) → List (List Bool) → Nat
  | x :: a, y :: b => if x = y then comL a b + 1 else 0
  | [], _ => 0
  | _ :: _, [] => 0
theorem com_is : ∀ {k : Nat} {a b : List (List Bool)}, k ≤ a.length → k ≤ b.length → (∀ j, j < k → a[j]? = b[j]?) → (k = a.length ∨ k = b.length ∨ a[k]? ≠ b[k]?) → comL a b = k
  | 0, [], b, _, _, _, _ => by cases b <;> rfl
  | 0, _ :: _, [], _, _, _, _ => rfl
  | 0, x :: a, y :: b, _, _, _, h => by
    unfold comL
    rw [if_neg]
    rintro rfl
    simp at h
  | k + 1, [], b, h, _, _, _ => by simp at h
  | k + 1, _ :: _, [], _, h, _, _ => by simp at h
  | k + 1, x :: a, y :: b, h1, h2, h3, h4 => by
    have h0 := h3 0 (by omega)
    simp at h0
    unfold comL
    rw [if_pos h0, com_is (k := k) (a := a) (b := b) (by simp at h1; omega) (by simp at h2; omega) (fun j hj => by simpa using h3 (j + 1) (by omega)) (by simpa using h4)]
theorem com_le : ∀ (a b : List (List Bool)), comL a b ≤ a.length ∧ comL a b ≤ b.length
  | [], b => by unfold comL; simp
  | _ :: _, [] => by unfold comL; simp
  | x :: a, y :: b => by
    unfold comL
    have := com_le a b
    split <;> simp <;> omega
theorem com_pre : ∀ (a b : List (List Bool)), a.take (comL a b) = b.take (comL a b)
  | [], b => by unfold comL; simp
  | _ :: _, [] => by unfold comL; simp
  | x :: a, y :: b => by
    unfold comL
    split
    · rename_i h
      rw [List.take_succ_cons, List.take_succ_cons, h, com_pre a b]
    · simp
theorem com_same {a b : List (List Bool)} (hl : a.length = b.length) : (comL a b = a.length) = (a = b) := by
  refine propext ⟨fun h => ?_, ?_⟩
  · have h1 := com_pre a b
    rw [h, List.take_length, hl, List.take_length] at h1
    exact h1
  · rintro rfl
    exact com_is (Nat.le_refl _) (Nat.le_refl _) (fun _ _ => rfl) (.inl rfl)
theorem eqs_to20 {r : Bool} (l l2 : List Bool) (A A2 : Option Addr) (n c n2 c2 : Nat) (w : World) (h : decide (l = l2) = r) (hr : Rd w A n (l.map Value.bool)) (hr2 : Rd w A2 n2 (l2.map Value.bool)) (hn : n ≤ 1048576) :
    Calls Try.prog 54 #[.slice A n c, .slice A2 n2 c2] w fun e w' => e = .returned (.bool r) ∧ ∃ m, w' = w.drewN m := h ▸ eqs_any l l2 A A2 n c n2 c2 w hr hr2 hn
theorem quiet_i {P : Program} {f : FuncId} {args : Array Value} {w : World} {x y : Int} (h : x = y) (hc : Calls P f args w fun e w' => e = .returned (.int .i64 x) ∧ ∃ m, w' = w.drewN m) : Calls P f args w fun e w' => e = .returned (.int .i64 y) ∧ ∃ m, w' = w.drewN m := h ▸ hc

set_option maxHeartbeats 4000000 in
set_option maxRecDepth 100000 in
theorem common_any (a b : List (List Bool)) (A B : Option Addr) (na nb ca cb : Nat) (w : World) (hna : a.length = na) (hnb : b.length = nb) (ha : LRB w A a) (hb : LRB w B b) (hla : ∀ r ∈ a, r.length ≤ 64) (h1 : na ≤ 1000) :
    Calls Try.prog 43 #[.slice A na ca, .slice B nb cb] w fun e w' => e = .returned (.int .i64 (comL a b)) ∧ ∃ m, w' = w.drewN m := by
  have HNA := Lib.hid hna
  have HNB := Lib.hid hnb
  have HLA := Lib.hid hla
  clear hna hnb hla
  go_enter Try.func43, Try.ntmps43
  go_wp2_with fail
  go_loopw [5] (fun i wr => ∃ k m : Nat, k ≤ na ∧ k ≤ nb ∧ i = .int .i64 k ∧ (∀ j, j < k → a[j]? = b[j]?) ∧ wr = w.drewN m) (fun i _ => na - (intOf i).toNat)
  case atStart => exact ⟨0, 0, Nat.zero_le _, Nat.zero_le _, rfl, fun _ h => absurd h (by omega), rfl⟩
  case round =>
    obtain ⟨k, m, hk, hk2, rfl, heq, hwr⟩ := hrel
    have HWR := Lib.hid hwr
    have hbw : Below w.heap.size w wr := by rw [hwr]; exact below_drewN (Below.refl _ _) m
    clear hwr
    have HE := Lib.hid heq
    clear heq
    by_cases hlt : k < na
    · by_cases hlt2 : k < nb
      · have hka : a[k]? = some (a.getD k []) := by rw [List.getD_eq_getElem?_getD, List.getElem?_eq_getElem (by rw [HNA.out]; exact hlt)]; rfl
        have hkb : b[k]? = some (b.getD k []) := by rw [List.getD_eq_getElem?_getD, List.getElem?_eq_getElem (by rw [HNB.out]; exact hlt2)]; rfl
        obtain ⟨ba, oa, Aa, c1, hA, hbl, d0, hra⟩ := (ha.below hbw).at_ hka
        obtain ⟨bb, ob, Ab, c2, hB, hbl2, e0, hrb⟩ := (hb.below hbw).at_ hkb
        subst hA hB
        have hl64 := HLA.out _ (List.mem_of_getElem? hka)
        have HKA := Lib.hid hka
        have HKB := Lib.hid hkb
        clear hka hkb
        generalize a.getD k [] = x at *
        generalize b.getD k [] = y at *
        have HEQ := Lib.hid (fun u (r : Bool) (hr : decide (x = y) = r) (h3 : Rd u Aa x.length (x.map Value.bool)) (h4 : Rd u Ab y.length (y.map Value.bool)) => eqs_to20 x y Aa Ab x.length c1 y.length c2 u hr h3 h4 (by omega))
        by_cases hxy : x = y
        · have HX := Lib.hid (decide_eq_true hxy)
          have HXY := Lib.hid (show ∀ j, j < k + 1 → a[j]? = b[j]? from fun j hj => by
            by_cases hjk : j = k
            · subst hjk; rw [HKA.out, HKB.out, hxy]
            · exact HE.out j (by omega))
          clear hxy
          go_wp2_with fail
          go_quiet ((go_at_call 54; exact Calls.quiet_of (HEQ.out _ _ HX.out (hra.drewN _) (hrb.drewN _))))
          go_wp2_with fail
          go_roundw
          case rel => exact ⟨k + 1, _, by omega, by omega, by go_num, HXY.out, by rw [HWR.out, World.drewN_drewN]⟩
          case measure => simp [intOf]; omega
        · have HX := Lib.hid (decide_eq_false hxy)
          have HC := Lib.hid (com_is (a := a) (b := b) (by have := HNA.out; omega) (by have := HNB.out; omega) HE.out (.inr (.inr (by rw [HKA.out, HKB.out]; exact fun h => hxy (Option.some.inj h)))))
          clear hxy
          go_wp2_with fail
          go_quiet ((go_at_call 54; exact Calls.quiet_of (HEQ.out _ _ HX.out (hra.drewN _) (hrb.drewN _))))
          go_wp2_with fail
          go_ret
          exact ⟨by rw [HC.out]; rfl, _, by rw [HWR.out, World.drewN_drewN]⟩
      · have HC := Lib.hid (com_is (a := a) (b := b) (k := k) (by have := HNA.out; omega) (by have := HNB.out; omega) HE.out (.inr (.inl (by have := HNB.out; omega))))
        go_wp2_with fail
        go_quiet (fail)
        go_wp2_with fail
        go_ret
        exact ⟨by rw [HC.out]; rfl, _, by rw [HWR.out, World.drewN_drewN]⟩
    · have HC := Lib.hid (com_is (a := a) (b := b) (k := k) (by have := HNA.out; omega) (by have := HNB.out; omega) HE.out (.inl (by have := HNA.out; omega)))
      go_wp2_with fail
      go_quiet (fail)
      go_wp2_with fail
      go_ret
      exact ⟨by rw [HC.out]; rfl, _, by rw [HWR.out, World.drewN_drewN]⟩
end Go.Proofs.Ytfjdlbilnoojkaa
