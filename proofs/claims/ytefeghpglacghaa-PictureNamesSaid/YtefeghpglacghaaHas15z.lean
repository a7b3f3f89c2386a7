/- has of the law package of layer 15: a number in a list; picture.Choices where some colours fit, and where none do. -/
import Derived.Test.YtefeghpglacghaaChoices15z
import Derived.Test.YtefeghpglacghaaMg7z
import Derived.BigQuiet
namespace Go.Proofs.Ytefeghpglacghaa
open Go.RowKit

theorem int_at2 {w : World} {A : Option Addr} {n i : Nat} {l : List Int} (h : Rd w A n (l.map (Value.int .i64))) (hi : i < n) : ∃ b o, A = some ⟨b, o, none⟩ ∧ w.cell? ⟨b, o + i, none⟩ = some (.int .i64 (l.getD i 0)) := by
  have hl : l.length = n := by simpa using h.len
  obtain ⟨b, o, hA, _, hc⟩ := h.at_ (by omega)
  exact ⟨b, o, hA, hc i _ (by rw [List.getElem?_map, List.getElem?_eq_getElem (by omega)]; simp [List.getD, show i < l.length by omega])⟩
theorem LR.at_ {w : World} {A : Option Addr} {ls : List (List Int)} (h : LR w A ls) {i : Nat} {l : List Int} (hi : ls[i]? = some l) :
    ∃ bl o A' c, A = some ⟨bl, o, none⟩ ∧ w.cell? ⟨bl, o + i, none⟩ = some (.slice A' l.length c) ∧ Rd w A' l.length (l.map (Value.int .i64)) := by
  obtain ⟨xs, hx, hr⟩ := h
  obtain ⟨A', c, h1, h2⟩ := hr i l hi
  have hlt : i < ls.length := (List.getElem?_eq_some_iff.1 hi).1
  obtain ⟨bl, o, hA, _, hc⟩ := hx.at_ (by omega)
  exact ⟨bl, o, A', c, hA, hc i _ h1, h2⟩
theorem chLs_at {a b : Nat} {cs : List Int} {s k i : Nat} (hi : i < k) : (chLs a b cs s k)[i]? = some (chL a b cs s i 16) := by
  unfold chLs
  rw [List.getElem?_map, List.getElem?_range hi]; rfl
set_option maxHeartbeats 1000000 in
set_option maxRecDepth 100000 in
theorem has_yes (l : List Int) (z : Int) (A : Option Addr) (n c : Nat) (w : World) (hr : Rd w A n (l.map (Value.int .i64))) (hn : n ≤ 1048576) (hz : z ∈ l) :
    Calls Try.prog 32 #[.slice A n c, .int .i64 z] w fun e w' => e = .returned (.bool true) ∧ Below w.heap.size w w' := by
  have hl : l.length = n := by simpa using hr.len
  obtain ⟨k, hk, hkz⟩ := List.getElem_of_mem hz
  have HK : Hid (l.getD k 0 = z) := Lib.hid (by rw [List.getD_eq_getElem?_getD, List.getElem?_eq_getElem hk]; exact hkz)
  have hkn : k < n := by omega
  clear hz hkz hk hl
  go_enter Try.func32, Try.ntmps32
  go_wp2_with fail
  go_loopw [5] (fun v wr => ∃ i : Nat, i ≤ k ∧ v = .int .i64 i ∧ Below w.heap.size w wr) (fun v _ => k - (intOf v).toNat)
  case atStart => exact ⟨0, Nat.zero_le _, rfl, Below.refl _ _⟩
  case round =>
    obtain ⟨i, hi, rfl, hb⟩ := hrel
    obtain ⟨bl, o, hA, g0⟩ := int_at2 (hr.below hb) (show i < n by omega)
    have hin : i < n := by omega
    by_cases hik : i = k
    · obtain rfl : k = i := hik.symm
      rw [HK.out] at g0
      go_wp2_with fail
      go_ret
      exact ⟨rfl, hb⟩
    · generalize l.getD i 0 = x at *
      by_cases hxz : x = z
      · have e1 : (x == z) = true := by simpa using hxz
        go_wp2_with fail
        go_ret
        exact ⟨rfl, hb⟩
      · have e1 : (x == z) = false := by simpa using hxz
        go_wp2_with fail
        go_roundw
        case rel => exact ⟨i + 1, by omega, by go_num, hb⟩
        case measure => simp [intOf]; omega
theorem Choices_fit (a b : Nat) (cs : List Int) (A : Option Addr) (c : Nat) (w : World) (h0 : chkI ⟨a, b, cs⟩ = 0) (hF : ∃ F, FitF (N2 a b) (M2 a cs) F) (hr : Rd w A (b * a) (cs.map (Value.int .i64))) (hn : b * a ≤ 1048576) :
    Calls Try.prog 13 #[.agg #[.int .i64 a, .int .i64 b, .slice A (b * a) c]] w fun e w' => ∃ (A1 A2 : Option Addr) (k1 k2 : Nat),
      e = .returned (.tuple #[.slice A1 a k1, .slice A2 b k2, .int .i64 0]) ∧ LR w' A1 (chLs a b cs 0 a) ∧ LR w' A2 (chLs a b cs 1 b) ∧ Below w.heap.size w w' := by
  refine (Choices_any ⟨a, b, cs⟩ A (b * a) c w hr hn).mono ?_
  rintro e w' ⟨L0, L1, er, A1, A2, k1, k2, rfl, hI, o1, o2, hb⟩
  rcases hI with ⟨hx, _⟩ | ⟨_, hno, _⟩ | ⟨_, _, h1, h2, rfl⟩
  · exact absurd h0 hx
  · exact absurd hF hno
  · simp only [Int.toNat_natCast] at h1 h2
    subst h1 h2
    rw [chLs_len] at o1 o2
    exact ⟨A1, A2, k1, k2, by rw [chLs_len, chLs_len], o1.read, o2.read, hb⟩
theorem Choices_none (a b : Nat) (cs : List Int) (A : Option Addr) (c : Nat) (w : World) (h0 : chkI ⟨a, b, cs⟩ = 0) (hF : ¬ ∃ F, FitF (N2 a b) (M2 a cs) F) (hr : Rd w A (b * a) (cs.map (Value.int .i64))) (hn : b * a ≤ 1048576) :
    Calls Try.prog 13 #[.agg #[.int .i64 a, .int .i64 b, .slice A (b * a) c]] w fun e w' => ∃ (A1 A2 : Option Addr) (k1 k2 : Nat),
      e = .returned (.tuple #[.slice A1 0 k1, .slice A2 0 k2, .int .i64 6]) ∧ Below w.heap.size w w' := by
  refine (Choices_any ⟨a, b, cs⟩ A (b * a) c w hr hn).mono ?_
  rintro e w' ⟨L0, L1, er, A1, A2, k1, k2, rfl, hI, o1, o2, hb⟩
  rcases hI with ⟨hx, _⟩ | ⟨_, _, rfl, rfl, rfl⟩ | ⟨_, hF2, _⟩
  · exact absurd h0 hx
  · exact ⟨A1, A2, k1, k2, rfl, hb⟩
  · exact absurd hF2 hF
/-! What the choices are. -/
section
variable {a b : Nat} {cs p q P Q : List Int}
theorem own_end {i : Nat} (hp : p.length = a) (h : FitF (N2 a b) (M2 a cs) (F2 p q)) (hi : i < a) : p.getD i 0 ∈ chL a b cs 0 i 16 := by
  have hv := h.val 0 i (by omega) hi
  rw [f2_0 (by omega)] at hv
  exact mem_chL.2 ⟨hv.1, by omega, F2 p q, h, f2_0 (by omega)⟩
theorem own_pick {i : Nat} (hq : q.length = b) (h : FitF (N2 a b) (M2 a cs) (F2 p q)) (hi : i < b) : q.getD i 0 ∈ chL a b cs 1 i 16 := by
  have hv := h.val 1 i (by omega) hi
  rw [f2_1 (by omega)] at hv
  exact mem_chL.2 ⟨hv.1, by omega, F2 p q, h, f2_1 (by omega)⟩
theorem first_end (ha : 0 < a) (hP : P.length = a) (h : FitF (N2 a b) (M2 a cs) (F2 P Q)) (hl : ∀ F, FitF (N2 a b) (M2 a cs) F → LexLe (N2 a b) 2 0 (F2 P Q) F) : (chL a b cs 0 0 16).getD 0 0 = P.getD 0 0 := by
  have hm := own_end (i := 0) hP h ha
  obtain ⟨j, hj, he⟩ := List.getElem_of_mem hm
  have h0 : 0 < (chL a b cs 0 0 16).length := by omega
  have hinc := List.pairwise_iff_getElem.1 (chL_inc (a := a) (b := b) (cs := cs) 0 0 16)
  have hle : (chL a b cs 0 0 16)[0] ≤ P.getD 0 0 := by
    rw [← he]
    by_cases e : j = 0
    · subst e; exact Int.le_refl _
    · exact Int.le_of_lt (hinc 0 j h0 hj (by omega))
  have hm0 := mem_chL.1 (List.getElem_mem h0)
  obtain ⟨_, _, F, hF, hFe⟩ := hm0
  have hge : P.getD 0 0 ≤ (chL a b cs 0 0 16)[0] := by
    rw [← hFe, ← f2_0 (p := P) (q := Q) (by omega)]
    rcases hl F hF with h1 | ⟨kd, jd, h1, h2, _, h4, h5⟩
    · rw [h1 0 0 (by omega) ha (.inl (by omega))]; exact Int.le_refl _
    · by_cases e : kd = 0 ∧ jd = 0
      · obtain ⟨rfl, rfl⟩ := e
        exact Int.le_of_lt h4
      · rw [h5 0 0 (by omega) ha (by unfold Bef; omega)]; exact Int.le_refl _
  rw [List.getD_eq_getElem?_getD, List.getElem?_eq_getElem h0]
  exact Int.le_antisymm hle hge
theorem chL_up {s i k : Nat} (h1 : 1 ≤ k) (hk : k < (chL a b cs s i 16).length) : (chL a b cs s i 16).getD (k - 1) 0 < (chL a b cs s i 16).getD k 0 := by
  rw [List.getD_eq_getElem?_getD, List.getD_eq_getElem?_getD, List.getElem?_eq_getElem hk, List.getElem?_eq_getElem (by omega)]
  exact List.pairwise_iff_getElem.1 (chL_inc (a := a) (b := b) (cs := cs) s i 16) (k - 1) k (by omega) hk (by omega)
end
end Go.Proofs.Ytefeghpglacghaa
