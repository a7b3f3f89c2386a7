/- colour.fine, colour.side and raddleref14.Fine: whether all numbers of a list are colours. -/
import Derived.Test.YtmajmbfbnchbfaaMg3z
import Derived.Test.YtmajmbfbnchbfaaImz
import Derived.RegionTactic
import Derived.Handy
import Derived.Outline
import Derived.Deep.QuietTactic
import Derived.BigQuiet
import Derived.Shelf.Abstract
import Derived.Deep.DeepMust
namespace Go.Proofs.Ytmajmbfbnchbfaa
open Go.RowKit

theorem ret_bl {a b : Bool} (h : a = b) : Ending.returned (.bool a) = Ending.returned (.bool b) := by rw [h]

/-- The number of an element that is no colour: at least 0 if there is one. -/
def IdxRet (l : List Int) (w : World) (e : Ending) (w' : World) : Prop := ∃ k : Int, e = .returned (.int .i64 k) ∧ (fineL l = false ∧ 0 ≤ k ∨ fineL l = true ∧ k < 0) ∧ Below w.heap.size w w'

theorem int_read {w : World} {bl o i n : Nat} {l : List Int} (hl : l.length = n) (hi : i < n)
    (hc : ∀ j u, (l.map (Value.int .i64))[j]? = some u → w.cell? ⟨bl, o + j, none⟩ = some u) : w.cell? ⟨bl, o + i, none⟩ = some (.int .i64 (l.getD i 0)) := by
  refine hc i _ ?_
  rw [List.getElem?_map, List.getElem?_eq_getElem (by omega)]
  simp [List.getD, show i < l.length by omega]
theorem get_d {l : List Int} {k : Nat} (h : k < l.length) : l[k]? = some (l.getD k 0) := by simp [List.getD, h]

theorem fine1_any (z : Int) (w : World) :
    Calls Try.prog 58 #[.int .i64 z] w fun e w' => e = .returned (.bool (decide (z < 0 ∨ 15 < z))) ∧ Below w.heap.size w w' := by
  by_cases h0 : z < 0
  · go_enter Try.func58, Try.ntmps58
    go_wp2
    go_ret
    exact ⟨ret_bl (by simp [h0]), Below.refl _ _⟩
  · by_cases h1 : 15 < z
    all_goals
      go_enter Try.func58, Try.ntmps58
      go_wp2
      go_ret
      exact ⟨ret_bl (by simp [h0, h1]; try omega), Below.refl _ _⟩
set_option maxHeartbeats 1000000 in
theorem idxf_any (l : List Int) (A : Option Addr) (n c : Nat) (w : World) (hr : Rd w A n (l.map (Value.int .i64))) (hn : n ≤ 1048576) :
    Calls Try.prog 61 #[.slice A n c, .func (.func 58) #[] #[]] w (IdxRet l w) := by
  have hl : l.length = n := by simpa using hr.len
  have hE := Proofs.enters_of Try.func58 (by kernel_rfl) rfl
  have HL := Lib.hid hl
  clear hl
  go_enter Try.func61, Try.ntmps61
  go_wp2_with fail
  go_loopw [8] (fun i wr => ∃ k : Nat, k ≤ n ∧ i = .int .i64 k ∧ fineL (l.take k) = true ∧ Below w.heap.size w wr) (fun i _ => n - (intOf i).toNat)
  case atStart => exact ⟨0, Nat.zero_le _, rfl, rfl, Below.refl _ _⟩
  case round =>
    obtain ⟨k, hk, rfl, hf, hbel⟩ := hrel
    have HF := Lib.hid hf
    clear hf
    by_cases hlt : k < n
    · obtain ⟨b, o, rfl, hb, hc⟩ := (hr.below hbel).at_ (by omega)
      have hcell := int_read HL.out hlt hc
      have HG := Lib.hid (get_d (l := l) (k := k) (by rw [HL.out]; exact hlt))
      generalize l.getD k 0 = z at *
      clear hc
      by_cases hz : z < 0 ∨ 15 < z
      · have hd : decide (z < 0 ∨ 15 < z) = true := by simpa using hz
        have HB := Lib.hid (fineL_not HG.out hz)
        clear hz
        go_wp2_with fail
        refine (fine1_any z _).mono ?_
        rintro e w2 ⟨rfl, hb2⟩
        go_wp2_with fail
        go_ret
        exact ⟨_, rfl, .inl ⟨HB.out, by omega⟩, below_then hbel hb2⟩
      · have hd : decide (z < 0 ∨ 15 < z) = false := by simpa using hz
        have HB := Lib.hid (fineL_take HF.out HG.out (by omega) (by omega))
        clear hz
        go_wp2_with fail
        refine (fine1_any z _).mono ?_
        rintro e w2 ⟨rfl, hb2⟩
        have hb3 := below_then hbel hb2
        go_wp2_with fail
        go_roundw
        case rel => exact ⟨k + 1, by omega, by go_num, HB.out, hb3⟩
        case measure => simp [intOf]; omega
    · have hk : k = n := by omega
      have HB : Hid (fineL l = true) := by
        have := HF.out
        rw [List.take_of_length_le (by rw [HL.out]; omega)] at this
        exact this
      go_wp2_with fail
      go_ret
      exact ⟨_, rfl, .inr ⟨HB.out, by omega⟩, hbel⟩

theorem contf_any (l : List Int) (A : Option Addr) (n c : Nat) (w : World) (hr : Rd w A n (l.map (Value.int .i64))) (hn : n ≤ 1048576) :
    Calls Try.prog 57 #[.slice A n c, .func (.func 58) #[] #[]] w fun e w' => e = .returned (.bool (!fineL l)) ∧ Below w.heap.size w w' := by
  go_enter Try.func57, Try.ntmps57
  go_wp2_with fail
  refine (idxf_any l A n c _ hr hn).mono ?_
  rintro e w1 ⟨k, rfl, hk, hb⟩
  rcases hk with ⟨hf, hk⟩ | ⟨hf, hk⟩
  · have HF := Lib.hid hf
    clear hf
    go_wp2_with fail
    go_ret
    exact ⟨ret_bl (by rw [HF.out]; simp; try omega), hb⟩
  · have HF := Lib.hid hf
    clear hf
    go_wp2_with fail
    go_ret
    exact ⟨ret_bl (by rw [HF.out]; simp; try omega), hb⟩

theorem fine_any (l : List Int) (A : Option Addr) (n c : Nat) (w : World) (hr : Rd w A n (l.map (Value.int .i64))) (hn : n ≤ 1048576) :
    Calls Try.prog 44 #[.slice A n c] w fun e w' => e = .returned (.bool (fineL l)) ∧ Below w.heap.size w w' := by
  have H := Lib.hid (contf_any l A n c w hr hn)
  generalize fineL l = p at *
  go_enter Try.func44, Try.ntmps44
  go_wp2_with fail
  refine H.out.mono ?_
  rintro e w1 ⟨rfl, hb⟩
  go_wp2_with fail
  go_ret
  exact ⟨ret_bl (by simp), hb⟩

set_option maxHeartbeats 1000000 in
theorem rfine_any (l : List Int) (A : Option Addr) (n c : Nat) (w : World) (hr : Rd w A n (l.map (Value.int .i64))) (hn : n ≤ 1048576) :
    Calls Try.prog 25 #[.slice A n c] w fun e w' => e = .returned (.bool (fineL l)) ∧ Below w.heap.size w w' := by
  have hl : l.length = n := by simpa using hr.len
  have HL := Lib.hid hl
  clear hl
  go_enter Try.func25, Try.ntmps25
  go_wp2_with fail
  go_loopw [3] (fun i wr => ∃ k : Nat, k ≤ n ∧ i = .int .i64 k ∧ fineL (l.take k) = true ∧ Below w.heap.size w wr) (fun i _ => n - (intOf i).toNat)
  case atStart => exact ⟨0, Nat.zero_le _, rfl, rfl, Below.refl _ _⟩
  case round =>
    obtain ⟨k, hk, rfl, hf, hbel⟩ := hrel
    have HF := Lib.hid hf
    clear hf
    by_cases hlt : k < n
    · obtain ⟨b, o, rfl, hb, hc⟩ := (hr.below hbel).at_ (by omega)
      have hcell := int_read HL.out hlt hc
      have HG := Lib.hid (get_d (l := l) (k := k) (by rw [HL.out]; exact hlt))
      generalize l.getD k 0 = z at *
      clear hc
      by_cases hz : z < 0 ∨ 15 < z
      · have HB := Lib.hid (fineL_not HG.out hz)
        rcases hz with hz | hz
        · go_wp2_with fail
          all_goals
            go_ret
            exact ⟨ret_bl HB.out.symm, hbel⟩
        · by_cases h0 : z < 0
          all_goals
            go_wp2_with fail
            go_ret
            exact ⟨ret_bl HB.out.symm, hbel⟩
      · have h0 : ¬ z < 0 := by omega
        have h1 : ¬ 15 < z := by omega
        have HB := Lib.hid (fineL_take HF.out HG.out (by omega) (by omega))
        clear hz
        go_wp2_with fail
        go_roundw
        case rel => exact ⟨k + 1, by omega, by go_num, HB.out, hbel⟩
        case measure => simp [intOf]; omega
    · have hk : k = n := by omega
      have HB : Hid (fineL l = true) := by
        have := HF.out
        rw [List.take_of_length_le (by rw [HL.out]; omega)] at this
        exact this
      go_wp2_with fail
      go_ret
      exact ⟨ret_bl HB.out.symm, hbel⟩
theorem side_any (z : Int) (w : World) :
    Calls Try.prog 46 #[.int .i64 z] w fun e w' => e = .returned (.bool (decide (1 ≤ z ∧ z ≤ 64))) ∧ Below w.heap.size w w' := by
  by_cases h0 : z < 1
  · go_enter Try.func46, Try.ntmps46
    go_wp2
    go_ret
    exact ⟨ret_bl (by simp; try omega), Below.refl _ _⟩
  · have h0' : 1 ≤ z := by omega
    by_cases h1 : 64 < z
    · have h1' : ¬ z ≤ 64 := by omega
      go_enter Try.func46, Try.ntmps46
      go_wp2
      go_ret
      exact ⟨ret_bl (by simp; try omega), Below.refl _ _⟩
    · have h1' : z ≤ 64 := by omega
      go_enter Try.func46, Try.ntmps46
      go_wp2
      go_ret
      exact ⟨ret_bl (by simp; try omega), Below.refl _ _⟩
end Go.Proofs.Ytmajmbfbnchbfaa
