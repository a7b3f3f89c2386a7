/- strings.CutSuffix and Split, as colour.Parse calls them. -/
import Derived.Test.YtpfonniepinjnaaDoorShl
import Derived.Test.YtpfonniepinjnaaDoorSplP
import Derived.Test.YtpfonniepinjnaaDoorLib
import Derived.WalkKit
import Derived.KernelRfl
namespace Go.Proofs.YtpfonniepinjnaaDoor
open Go.RowKit Go.Shelf Go.Sort

abbrev str (l : List UInt8) : Value := .string ⟨l.toArray⟩
theorem size_list (l : List UInt8) : (⟨l.toArray⟩ : ByteArray).size = l.length := by simp [ByteArray.size]
theorem mk_list (s : ByteArray) : s = ⟨s.data.toList.toArray⟩ := rfl

theorem cut_any (l : List UInt8) (w : World) (hl : l.length ≤ 4194304) :
    Calls Tryd.prog 23 #[str l, .string ⟨#[10]⟩] w fun e w' => e = .returned (.tuple #[str (Lib.trimSuffix l [10]), .bool (Lib.hasSuffix l [10])]) ∧ w' = w :=
  Any.strings_CutSuffix Tryd.lays104 ⟨l.toArray⟩ ⟨#[10]⟩ w (by rw [size_list]; omega)
theorem hi9 : (Tryd.prog.info? 9).map (fun i => (i.zero, i.size, i.bytes)) = some (some (.string ByteArray.empty), 1, 16) := by kernel_rfl
theorem split_list (l : List UInt8) : Lib.splitB ⟨#[10]⟩ 0 (l.count 10) ⟨l.toArray⟩ = (spl l).map fun p => (⟨p.toArray⟩ : ByteArray) := by
  have h := Lib.splitB_data ⟨#[10]⟩ 0 (l.count 10) ⟨l.toArray⟩
  have h2 : (Lib.splitB ⟨#[10]⟩ 0 (l.count 10) ⟨l.toArray⟩).map (·.data.toList) = spl l := h.trans (splitK_spl _ l rfl)
  rw [← h2, List.map_map]
  exact (List.map_id' _).symm
theorem spl_length (l : List UInt8) : (spl l).length = l.count 10 + 1 := by
  have h := Lib.splitB_all ⟨#[10]⟩ (by decide) 0 (l.count 10) ⟨l.toArray⟩ (by
    show Lib.count l [10] = _
    rw [Lib.count_one])
  rw [split_list, List.length_map] at h
  exact h
set_option maxHeartbeats 1000000 in
set_option maxRecDepth 100000 in
theorem split_any (l : List UInt8) (w : World) (hl : l.length ≤ 4194304) :
    Calls Tryd.prog 24 #[str l, .string ⟨#[10]⟩] w fun e w' => e = .returned (.slice (some ⟨w.heap.size, 0, none⟩) (spl l).length (spl l).length) ∧ w' = w.alloc (.cells ((spl l).map str).toArray 9) := by
  have hc : Lib.countB ⟨l.toArray⟩ ⟨#[10]⟩ = l.count 10 := by
    show Lib.count l [10] = _
    rw [Lib.count_one]
  have hcl : l.count 10 ≤ l.length := List.count_le_length
  have hsz : (⟨l.toArray⟩ : ByteArray).size = l.length := size_list l
  have c := Any.strings_genSplit_core Tryd.lays221 hi9 ⟨l.toArray⟩ ⟨#[10]⟩ 0 (-1) (l.count 10 + 1) w (by rw [hsz]; omega) (by decide) (by decide)
    (fun x cs _ => (Any.strings_Index_one Tryd.lays143 x 10 _).mono fun e w' ⟨h1, h2⟩ => ⟨by rw [h1]; congr 3; exact (Lib.index_one _ _).symm, h2⟩)
    ((Any.strings_Count_one Tryd.lays138 ⟨l.toArray⟩ 10 w).mono fun e w' ⟨h1, h2⟩ => ⟨by rw [h1, hc]; rfl, h2⟩)
    (by decide) (by decide) (by rw [if_pos (by decide), hc, hsz]; omega)
  rw [Nat.add_sub_cancel, split_list, List.length_map] at c
  have e2 : Lib.cellsOf ((spl l).map fun p => (⟨p.toArray⟩ : ByteArray)) (l.count 10 + 1) = ((spl l).map str).toArray := by
    have h := Lib.cellsOf_full ((spl l).map fun p => (⟨p.toArray⟩ : ByteArray))
    rw [List.length_map, spl_length] at h
    rw [h, List.map_map]
    rfl
  rw [e2, ← spl_length l] at c
  have c' : Calls Tryd.prog 40 #[str l, .string ⟨#[10]⟩, .int .i64 0, .int .i64 (-1)] w fun e w' => e = .returned (.slice (some ⟨w.heap.size, 0, none⟩) (spl l).length (spl l).length) ∧ w' = w.alloc (.cells ((spl l).map str).toArray 9) := c
  have C := Lib.hid c'
  clear c c'
  generalize (spl l).length = n at *
  go_enter Tryd.func24, Tryd.ntmps24
  go_wp2_with fail
  refine C.out.mono ?_
  rintro e w' ⟨rfl, rfl⟩
  go_wp2_with fail
  go_ret
  exact ⟨rfl, rfl⟩
end Go.Proofs.YtpfonniepinjnaaDoor
