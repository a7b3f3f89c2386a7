/- strings.CutSuffix, Trim and Split, and slices.Reverse of strings, as grid.Parse calls them. -/
import Derived.Test.YtebbcpeldncekaaDoorShl
import Derived.Test.YtebbcpeldncekaaDoorSplPz
import Derived.Test.YtebbcpeldncekaaDoorLibz
import Derived.WalkKit
import Derived.KernelRfl
namespace Go.Proofs.YtebbcpeldncekaaDoor
open Go.RowKit Go.Shelf Go.Sort

abbrev str (l : List UInt8) : Value := .string ⟨l.toArray⟩
theorem size_list (l : List UInt8) : (⟨l.toArray⟩ : ByteArray).size = l.length := by simp [ByteArray.size]
theorem mk_list (s : ByteArray) : s = ⟨s.data.toList.toArray⟩ := rfl

theorem cut_any (l : List UInt8) (w : World) (hl : l.length ≤ 4194304) :
    Calls Tryd.prog 36 #[str l, .string ⟨#[10]⟩] w fun e w' => e = .returned (.tuple #[str (Lib.trimSuffix l [10]), .bool (Lib.hasSuffix l [10])]) ∧ w' = w :=
  Any.strings_CutSuffix Tryd.lays104 ⟨l.toArray⟩ ⟨#[10]⟩ w (by rw [size_list]; omega)
theorem set_info : (Tryd.prog.info? 80).map (fun i => (i.zero, i.size)) = some (some (.agg (Array.replicate 256 (.bool false))), 256) := by kernel_rfl
theorem trim3_any (l : List UInt8) (w : World) (hl : l.length ≤ 4194304) :
    Calls Tryd.prog 37 #[str l, .string ⟨#[120, 46, 10]⟩] w fun e w' => e = .returned (str (Lib.trimS l [120, 46, 10])) ∧ Below w.heap.size w w' :=
  Any.strings_Trim_laid Tryd.lays160 set_info ⟨l.toArray⟩ ⟨#[120, 46, 10]⟩ w (by rw [size_list]; omega) (by decide) (ascii_of_all (by decide))
theorem trim2_any (l : List UInt8) (w : World) (hl : l.length ≤ 4194304) :
    Calls Tryd.prog 37 #[str l, .string ⟨#[120, 46]⟩] w fun e w' => e = .returned (str (Lib.trimS l [120, 46])) ∧ Below w.heap.size w w' :=
  Any.strings_Trim_laid Tryd.lays160 set_info ⟨l.toArray⟩ ⟨#[120, 46]⟩ w (by rw [size_list]; omega) (by decide) (ascii_of_all (by decide))

theorem hi9 : (Tryd.prog.info? 9).map (fun i => (i.zero, i.size, i.bytes)) = some (some (.string ByteArray.empty), 1, 16) := by kernel_rfl
theorem split_list (l : List UInt8) : Lib.splitB ⟨#[10]⟩ 0 (l.count 10) ⟨l.toArray⟩ = (spl l).map fun p => (⟨p.toArray⟩ : ByteArray) := by
  have h := Lib.splitB_data ⟨#[10]⟩ 0 (l.count 10) ⟨l.toArray⟩
  have h2 : (Lib.splitB ⟨#[10]⟩ 0 (l.count 10) ⟨l.toArray⟩).map (·.data.toList) = spl l := h.trans (splitK_spl _ l rfl)
  rw [← h2, List.map_map]
  exact (List.map_id' _).symm
theorem spl_length (l : List UInt8) : (spl l).length = l.count 10 + 1 := by
  have h := Lib.splitB_all ⟨#[10]⟩ (by decide) 0 (l.count 10) ⟨l.toArray⟩ (by
    show Lib.count l [10] = _
    rw [Lib.count_one])
  rw [split_list, List.length_map] at h
  exact h
set_option maxHeartbeats 1000000 in
set_option maxRecDepth 100000 in
theorem split_any (l : List UInt8) (w : World) (hl : l.length ≤ 4194304) :
    Calls Tryd.prog 38 #[str l, .string ⟨#[10]⟩] w fun e w' => e = .returned (.slice (some ⟨w.heap.size, 0, none⟩) (spl l).length (spl l).length) ∧ w' = w.alloc (.cells ((spl l).map str).toArray 9) := by
  have hc : Lib.countB ⟨l.toArray⟩ ⟨#[10]⟩ = l.count 10 := by
    show Lib.count l [10] = _
    rw [Lib.count_one]
  have hcl : l.count 10 ≤ l.length := List.count_le_length
  have hsz : (⟨l.toArray⟩ : ByteArray).size = l.length := size_list l
  have c := Any.strings_genSplit_core Tryd.lays221 hi9 ⟨l.toArray⟩ ⟨#[10]⟩ 0 (-1) (l.count 10 + 1) w (by rw [hsz]; omega) (by decide) (by decide)
    (fun x cs _ => (Any.strings_Index_one Tryd.lays143 x 10 _).mono fun e w' ⟨h1, h2⟩ => ⟨by rw [h1]; congr 3; exact (Lib.index_one _ _).symm, h2⟩)
    ((Any.strings_Count_one Tryd.lays138 ⟨l.toArray⟩ 10 w).mono fun e w' ⟨h1, h2⟩ => ⟨by rw [h1, hc]; rfl, h2⟩)
    (by decide) (by decide) (by rw [if_pos (by decide), hc, hsz]; omega)
  rw [Nat.add_sub_cancel, split_list, List.length_map] at c
  have e2 : Lib.cellsOf ((spl l).map fun p => (⟨p.toArray⟩ : ByteArray)) (l.count 10 + 1) = ((spl l).map str).toArray := by
    have h := Lib.cellsOf_full ((spl l).map fun p => (⟨p.toArray⟩ : ByteArray))
    rw [List.length_map, spl_length] at h
    rw [h, List.map_map]
    rfl
  rw [e2, ← spl_length l] at c
  have c' : Calls Tryd.prog 64 #[str l, .string ⟨#[10]⟩, .int .i64 0, .int .i64 (-1)] w fun e w' => e = .returned (.slice (some ⟨w.heap.size, 0, none⟩) (spl l).length (spl l).length) ∧ w' = w.alloc (.cells ((spl l).map str).toArray 9) := c
  have C := Lib.hid c'
  clear c c'
  generalize (spl l).length = n at *
  go_enter Tryd.func38, Tryd.ntmps38
  go_wp2_with fail
  refine C.out.mono ?_
  rintro e w' ⟨rfl, rfl⟩
  go_wp2_with fail
  go_ret
  exact ⟨rfl, rfl⟩
theorem blk_setCells {g : Nat} {t : TypeId} : ∀ (vs old pre : List Value) (w : World), old.length = vs.length → Blk w g t (pre ++ old).toArray → Blk (w.setCells g pre.length vs) g t (pre ++ vs).toArray
  | [], [], pre, w, _, h => h
  | [], _ :: _, _, _, hl, _ => by simp at hl
  | _ :: _, [], _, _, hl, _ => by simp at hl
  | v :: vs, x :: old, pre, w, hl, h => by
    have h1 := h.set_ pre.length v
    have e : (pre ++ x :: old).toArray.setIfInBounds pre.length v = ((pre ++ [v]) ++ old).toArray := by
      simp [List.setIfInBounds_toArray]
    rw [e] at h1
    have h2 := blk_setCells vs old (pre ++ [v]) _ (by simpa using hl) h1
    rw [List.length_append, List.length_singleton, List.append_assoc, List.singleton_append] at h2
    exact h2
theorem only_setCells {g : Nat} : ∀ (vs : List Value) (o : Nat) (w w1 : World), Only [g] w w1 → Only [g] w (w1.setCells g o vs)
  | [], _, _, _, h => h
  | v :: vs, o, w, w1, h => only_setCells vs (o + 1) w _ (h.set (p := ⟨g, o, none⟩) (by simp) v)
/-- Reverse of a block of strings. -/
theorem reverse_any (g : Nat) (R : List (List UInt8)) (w : World) (h : Blk w g 9 (R.map str).toArray) (hn : R.length ≤ 4194304) :
    Calls Tryd.prog 39 #[.slice (some ⟨g, 0, none⟩) R.length R.length] w fun e w' => e = .returned (.tuple #[]) ∧ Blk w' g 9 (R.reverse.map str).toArray ∧ Only [g] w w' := by
  have hS : Lib.strsOf (fun i => ⟨(R.getD i []).toArray⟩) R.length = R := by
    unfold Lib.strsOf
    refine List.ext_getElem? fun i => ?_
    rw [List.getElem?_map]
    by_cases hi : i < R.length
    · rw [List.getElem?_range hi, List.getElem?_eq_getElem hi, Option.map_some]
      show some (R.getD i []) = _
      rw [List.getD_eq_getElem?_getD, List.getElem?_eq_getElem hi]
      rfl
    · rw [List.getElem?_eq_none (by simpa using hi), List.getElem?_eq_none (by simpa using hi)]
      rfl
  have c := Any.slices_Reverse_string_cells Tryd.laysNm217 g 0 R.length R.length (fun i => ⟨(R.getD i []).toArray⟩) w (by omega)
    (fun i hi => by
      rw [Nat.zero_add, h.cell i]
      simp [hi])
    (fun i _ => by rw [Nat.zero_add]; exact h.frozen i)
  rw [hS] at c
  refine c.mono ?_
  rintro e w' ⟨rfl, q, rfl⟩
  refine ⟨rfl, ?_, only_setCells _ _ _ _ ⟨rfl, rfl, rfl, Nat.le_refl _, fun _ _ _ => rfl⟩⟩
  exact blk_setCells (R.reverse.map encStr) (R.map str) [] _ (by simp) (h.drewN q)
end Go.Proofs.YtebbcpeldncekaaDoor
