/- slices.Insert of one row ahead of an element: the outer slice is the call's own; the row lies in a block of its own. -/
import Derived.Test.YtfjdlbilnoojkaaClone2z
import Derived.Lib.Overlaps
import Derived.Lib.AppendZeros
import Derived.Lib.AppendZerosOnto
import Derived.Lib.SlBuf
import Derived.Laws.CopyRow
namespace Go.Proofs.Ytfjdlbilnoojkaa
open Go.RowKit Go.Lib

theorem ins_a {α : Type} {L pre post : List α} {x : α} {i m : Nat} (hp : L.take i = pre) (hi : pre.length = i) (hm : post.length = m) (hL : i + 1 + m ≤ L.length) :
    ((L.take (i + 1) ++ post ++ L.drop (i + 1 + m)).take i ++ [x] ++ (L.take (i + 1) ++ post ++ L.drop (i + 1 + m)).drop (i + 1)).take (i + 1 + m) = pre ++ x :: post := by
  have h1 : (L.take (i + 1) ++ post ++ L.drop (i + 1 + m)).take i = pre := by
    rw [List.append_assoc, List.take_append_of_le_length (by rw [List.length_take]; omega), List.take_take, show min i (i + 1) = i by omega, hp]
  have h2 : (L.take (i + 1) ++ post ++ L.drop (i + 1 + m)).drop (i + 1) = post ++ L.drop (i + 1 + m) := by
    have h3 : (L.take (i + 1)).length = i + 1 := by rw [List.length_take]; omega
    rw [List.append_assoc, List.drop_append, h3, Nat.sub_self, List.drop_zero, List.drop_eq_nil_of_le (by omega), List.nil_append]
  rw [h1, h2, show pre ++ [x] ++ (post ++ L.drop (i + 1 + m)) = (pre ++ x :: post) ++ L.drop (i + 1 + m) by simp]
  exact List.take_left' (by simp; omega)
theorem ins_b {α : Type} {L pre post : List α} {x : α} {i m : Nat} (hp : L.take i = pre) (hi : pre.length = i) (hm : post.length = m) :
    ((L.take i ++ [x] ++ L.drop (i + 1)).take (i + 1) ++ post ++ (L.take i ++ [x] ++ L.drop (i + 1)).drop (i + 1 + m)).take (i + 1 + m) = pre ++ x :: post := by
  have h1 : (L.take i ++ [x] ++ L.drop (i + 1)).take (i + 1) = pre ++ [x] := by
    rw [hp]
    exact List.take_left' (by simp; omega)
  rw [h1, show pre ++ [x] ++ post = pre ++ x :: post by simp]
  exact List.take_left' (by simp; omega)
theorem own_open {w : World} {base e g n c : Nat} {xs : List Value} (h : w.ownsRow base e 1 (.slice (some ⟨g, 0, none⟩) n c) n xs) :
    ∃ cur, base ≤ g ∧ w.heap[g]? = some (.cells cur e (0, 0)) ∧ n ≤ c ∧ c ≤ maxLen ∧ cur.size = c ∧ cur.toList.take n = xs := by
  rcases h.2 with ⟨h0, _⟩ | ⟨g', cap, cur, hv, hb, hh, hnc, hcm, hcs, ht⟩
  · cases h0
  · injection hv with e1 _ e3
    injection e1 with e1
    injection e1 with e1
    subst e1 e3
    exact ⟨cur, hb, hh, hnc, hcm, by simpa using hcs, by simpa using ht⟩
theorem step_copy_runI2 {P : Program} {ops : Array Oper} {o : Oper} {a : Act} {w : World} {K : Act → World → Prop} {Q : Exit → Act → World → Prop} {E : Prop} (hg : o.guard = none) (d s : Operand) (t t' : TypeId)
    (ho : o.op = .call { callee := .builtin .copy, args := #[d, s], argTypes := #[t, t'] }) (v u : Value) (hd : a.eval d = v) (hs : a.eval s = u) {v' : Value} {w' : World}
    (hr : (Builtin.copy_ #[t, t'] o.type #[v, u]).run P w = .ok v' w') (h : K (a.put o.dst v') w') : if Region.wanted o (yielded ops a.tmps) = true then Oper.wp P o a w K Q else E := by
  have hw : Region.wanted o (yielded ops a.tmps) = true := by simp [Region.wanted, hg]
  rw [if_pos hw]
  exact Lib.wp_copy_run w d s t t' ho v u hd hs hr h
theorem shape_blk {w : World} {g : Nat} {t : TypeId} {cs : Array Value} (h : Blk w g t cs) : w.shape? g = some (t, cs.size) := by
  unfold World.shape?
  rw [show w.heap[g]? = _ from h]
/-- A row of a block of its own lies apart from the list. -/
theorem overlaps_no (w : World) (ga oa gb ob la ca lb cb : Nat) (csA csB : Array Value) (hne : ga ≠ gb) (hA : Blk w ga 23 csA) (hB : Blk w gb 23 csB) (hn : csB.size ≠ 0) :
    (callFunc 66 #[.slice (some ⟨ga, oa, none⟩) la ca, .slice (some ⟨gb, ob, none⟩) lb cb]).run Try.prog w = .ok (.value (.bool false)) w := by
  obtain ⟨i0, hi, hz0, hz1, hz2⟩ := info_parts Try.infoRow
  rw [run_callFunc_extern Try.func66 (by kernel_rfl) (by kernel_rfl) (by kernel_rfl) (e := Extern.SlicesOverlaps.overlaps #[70, 70] #[4]) (by kernel_rfl),
    Lib.run_overlaps_apart w 70 4 23 Try.underlying70 1 (fun w => by simp [sizeOf, typeInfo, hi, hz1]) ⟨ga, oa, none⟩ ⟨gb, ob, none⟩ la ca lb cb hne 23 23 csA.size csB.size (shape_blk hA) (shape_blk hB) hn (hA.frozen _) (hA.frozen _)]
  rfl
set_option maxHeartbeats 4000000 in
set_option maxRecDepth 100000 in
/-- Where there is room: in place. -/
theorem insert_room (pre post : List Value) (x : Value) (base g gx c i m : Nat) (w : World) (hi : pre.length = i) (hm : post.length = m) (hm1 : 1 ≤ m) (hown : w.ownsRow base 23 1 (.slice (some ⟨g, 0, none⟩) (i + m) c) (i + m) (pre ++ post))
    (hx : Blk w gx 23 #[x]) (hne : gx ≠ g) (h1 : ∀ u ∈ post, u.oneCell' = true) (h1x : x.oneCell' = true) (him : i + m ≤ 1000) (hroom : i + m + 1 ≤ c) :
    Calls Try.prog 58 #[.slice (some ⟨g, 0, none⟩) (i + m) c, .int .i64 i, .slice (some ⟨gx, 0, none⟩) 1 1] w fun e w' => ∃ g' c', e = .returned (.slice (some ⟨g', 0, none⟩) (i + 1 + m) c') ∧ w'.ownsRow base 23 1 (.slice (some ⟨g', 0, none⟩) (i + 1 + m) c') (i + 1 + m) (pre ++ x :: post) ∧ Below base w w' := by
  obtain ⟨i0, hinf, hz0, hz1, hz2⟩ := info_parts Try.infoRow
  have hsz : (Try.prog.info? 23).map (·.size) = some 1 := by rw [hinf]; simp [hz1]
  obtain ⟨cur, hbg, hh, hnc, hcm, hcs, ht⟩ := own_open hown
  have hpl : cur.toList.length = c := by simpa using hcs
  have htk : cur.toList.take i = pre := by
    have h2 := congrArg (List.take i) ht
    rw [List.take_take, show min i (i + m) = i by omega] at h2
    rw [h2, ← hi]
    exact List.take_left
  have hpost : ∀ j y, post[j]? = some y → w.cell? ⟨g, i + j, none⟩ = some y := fun j y hj => by
    have hjm : j < m := by have := (List.getElem?_eq_some_iff.1 hj).1; omega
    rw [cell_of_row w g _ cur _ (0, 0) hh]
    have h2 : (cur.toList.take (i + m))[i + j]? = some y := by
      rw [ht, List.getElem?_append_right (by omega), hi, show i + j - i = j by omega]
      exact hj
    rw [List.getElem?_take, if_pos (by omega)] at h2
    simpa using h2
  have hcp1 : ∀ ty dc sc, (Builtin.copy_ #[70, 70] ty #[.slice (some ⟨g, i + 1, none⟩) m dc, .slice (some ⟨g, i, none⟩) (m + 1) sc]).run Try.prog w.drew = .ok (goInt m) (w.drew.setRow g (cur.toList.take (i + 1) ++ post ++ cur.toList.drop (i + 1 + m)).toArray) := fun ty dc sc => by
    have h := run_copy_row Try.prog w.drew 70 70 ty 23 g (i + 1) m dc ⟨g, i, none⟩ (m + 1) sc cur 23 post Try.underlying70 hsz hh (by rw [hm]; exact (Nat.min_eq_right (by omega)).symm)
      (fun j v hj => by rw [Addr.add_lit]; exact hpost j v hj) (by rw [hm, hcs]; omega) h1
    rw [hm] at h
    exact h
  obtain ⟨cur1, hcur1⟩ : ∃ cur1, cur1 = (cur.toList.take (i + 1) ++ post ++ cur.toList.drop (i + 1 + m)).toArray := ⟨_, rfl⟩
  rw [← hcur1] at hcp1
  have hc1s : cur1.size = c := by
    rw [hcur1]
    simp only [List.size_toArray, List.length_append, List.length_take, List.length_drop, Array.length_toList]
    omega
  have hblk1 : Blk (w.drew.setRow g cur1) g 23 cur1 := setRow_heap w.drew g cur _ _ _ hh
  have hx1 : Blk (w.drew.setRow g cur1) gx 23 #[x] := (setRow_other w.drew g gx _ hne).trans hx
  have hB1 : Below base w (w.drew.setRow g cur1) := ⟨rfl, rfl, rfl, by simp [World.setRow], fun j hj => setRow_other w.drew g j _ (by omega)⟩
  obtain ⟨w1, hw1⟩ : ∃ w1, w1 = w.drew.setRow g cur1 := ⟨_, rfl⟩
  rw [← hw1] at hblk1 hx1 hB1 hcp1
  have hcp2 : ∀ ty dc, (Builtin.copy_ #[70, 70] ty #[.slice (some ⟨g, i, none⟩) (m + 1) dc, .slice (some ⟨gx, 0, none⟩) 1 1]).run Try.prog w1 = .ok (goInt 1) (w1.setRow g (cur1.toList.take i ++ [x] ++ cur1.toList.drop (i + 1)).toArray) := fun ty dc =>
    run_copy_row Try.prog w1 70 70 ty 23 g i (m + 1) dc ⟨gx, 0, none⟩ 1 1 cur1 23 [x] Try.underlying70 hsz hblk1 (show 1 = Nat.min 1 (m + 1) from (Nat.min_eq_left (by omega)).symm)
      (fun j v hj => by
        rw [Addr.add_lit]
        match j, hj with
        | 0, hj => simp at hj; subst hj; exact hx1.cell 0) (by simp; omega) (by simpa using h1x)
  obtain ⟨cur2, hcur2⟩ : ∃ cur2, cur2 = (cur1.toList.take i ++ [x] ++ cur1.toList.drop (i + 1)).toArray := ⟨_, rfl⟩
  rw [← hcur2] at hcp2
  have hown2 : (w1.setRow g cur2).ownsRow base 23 1 (.slice (some ⟨g, 0, none⟩) (i + 1 + m) c) (i + 1 + m) (pre ++ x :: post) := by
    refine ⟨by simp [hi, hm]; omega, .inr ⟨g, c, cur2, rfl, hbg, setRow_heap w1 g cur1 _ _ _ hblk1, by omega, hcm, ?_, ?_⟩⟩
    · rw [hcur2]
      simp only [List.size_toArray, List.length_append, List.length_take, List.length_drop, Array.length_toList, List.length_singleton]
      omega
    · rw [hcur2, hcur1, Nat.mul_one]
      exact ins_a htk hi hm (by omega)
  have hB2 : Below base w (w1.setRow g cur2) := ⟨hB1.os, hB1.tape, hB1.output, by simpa [World.setRow] using hB1.size, fun j hj => (setRow_other w1 g j _ (by omega)).trans (hB1.block j hj)⟩
  have hov : ∀ ob lb cb, (callFunc 66 #[.slice (some ⟨gx, 0, none⟩) 1 1, .slice (some ⟨g, ob, none⟩) lb cb]).run Try.prog w = .ok (.value (.bool false)) w := fun ob lb cb => overlaps_no w gx 0 g ob 1 1 lb cb #[x] cur hne hx hh (by omega)
  have hw63 : c ≤ 9223372036854775807 := hcm
  clear hown hh hcs ht hpl htk hpost hcur1 hc1s hblk1 hx1 hB1 hcur2 hw1 hcm h1 h1x hi hm hx hinf hz0 hz1 hz2 hsz
  have hb1 : ¬ ((i : Int) = (i : Int) + (m : Int)) := by omega
  have hb2 : ¬ (c = i) := by omega
  have hb3 : ¬ (c = i + 1) := by omega
  go_enter Try.func58, Try.ntmps58
  have heq : i + m + 1 - i = m + 1 := by omega
  have hW : IntKind.i64.wrap ((i : Int) + 1) = (i : Int) + 1 := wrap_small _ (by omega) (by omega)
  have hTN : ((i : Int) + 1).toNat = i + 1 := by omega
  have hA1 : (i : Int) ≤ (i : Int) + 1 := by omega
  have hA2 : (i : Int) + 1 ≤ (i : Int) + (m : Int) + 1 := by omega
  have hA3 : (0 : Int) ≤ (i : Int) + 1 := by omega
  have hA4 : (i : Int) ≤ (i : Int) + (m : Int) + 1 := by omega
  go_wp2_with (simp only [hov])
  go_region_law (first
    | (refine step_copy_runI2 rfl (.tmp 73) (.tmp 76) 70 70 rfl (.slice (some ⟨g, i + 1, none⟩) m (c - (i + 1))) (.slice (some ⟨g, i, none⟩) (m + 1) (c - i)) (by simp [Act.eval, Act.put] <;> omega) (by simp [Act.eval, Act.put] <;> omega) (hcp1 _ _ _) ?_)
    | fail)
  go_wp2_with (at_builtin; go_loud (refine Lib.wpList_copy_run _ rfl (.tmp 80) (.tmp 81) 70 70 rfl (.slice (some ⟨g, i, none⟩) (m + 1) (c - i)) (.slice (some ⟨gx, 0, none⟩) 1 1) (show Value.slice (some ⟨g, i, none⟩) (i + m + 1 - i) (c - i) = _ by rw [heq]) rfl (hcp2 _ _) ?_))
  go_wp2_with fail
  go_ret
  exact ⟨g, c, by rw [show i + 1 + m = i + m + 1 by omega]; rfl, hown2, hB2⟩
set_option maxHeartbeats 4000000 in
set_option maxRecDepth 100000 in
/-- Where there is no room: a new row. -/
theorem insert_grow (pre post : List Value) (x : Value) (base g gx c i m : Nat) (w : World) (hi : pre.length = i) (hm : post.length = m) (hm1 : 1 ≤ m) (hown : w.ownsRow base 23 1 (.slice (some ⟨g, 0, none⟩) (i + m) c) (i + m) (pre ++ post))
    (hx : Blk w gx 23 #[x]) (h1 : ∀ u ∈ post, u.oneCell' = true) (h1x : x.oneCell' = true) (him : i + m ≤ 1000) (hroom : c < i + m + 1) (hbs : base ≤ w.heap.size) :
    Calls Try.prog 58 #[.slice (some ⟨g, 0, none⟩) (i + m) c, .int .i64 i, .slice (some ⟨gx, 0, none⟩) 1 1] w fun e w' => ∃ g' c', e = .returned (.slice (some ⟨g', 0, none⟩) (i + 1 + m) c') ∧ w'.ownsRow base 23 1 (.slice (some ⟨g', 0, none⟩) (i + 1 + m) c') (i + 1 + m) (pre ++ x :: post) ∧ Below base w w' := by
  obtain ⟨i0, hinf, hz0, hz1, hz2⟩ := info_parts Try.infoRow
  have hsz : (Try.prog.info? 23).map (·.size) = some 1 := by rw [hinf]; simp [hz1]
  obtain ⟨cur, hbg, hh, hnc, hcm, hcs, ht⟩ := own_open hown
  obtain rfl : c = i + m := by omega
  have hglt : g < w.heap.size := (Array.getElem?_eq_some_iff.1 hh).1
  have hgx : gx < w.heap.size := hx.lt
  have htk : cur.toList.take i = pre := by
    have h2 := congrArg (List.take i) ht
    rw [List.take_take, show min i (i + m) = i by omega] at h2
    rw [h2, ← hi]
    exact List.take_left
  have hcell : ∀ j y, (pre ++ post)[j]? = some y → w.cell? ⟨g, j, none⟩ = some y := fun j y hj => by
    have hjm : j < i + m := by have := (List.getElem?_eq_some_iff.1 hj).1; rw [List.length_append] at this; omega
    rw [cell_of_row w g _ cur _ (0, 0) hh]
    rw [← ht, List.getElem?_take, if_pos hjm] at hj
    simpa using hj
  have hold : (Builtin.firstCells i0.size i (.slice (some ⟨g, 0, none⟩) i (i + m))).run Try.prog w.drew = .ok pre.toArray w.drew := by
    rw [hz1]
    exact run_firstCells_some w.drew 1 i ⟨g, 0, none⟩ i (i + m) pre (by rw [hi]; omega) (fun j v hj => by
      rw [Addr.add_lit, Nat.zero_add]
      exact hcell j v (by rw [List.getElem?_append_left (by have := (List.getElem?_eq_some_iff.1 hj).1; omega)]; exact hj))
  have hrz : ∀ ty, (Builtin.append_ #[70, 3] ty #[.slice (some ⟨g, 0, none⟩) i (i + m), .int .i64 ((m + 1 : Nat) : Int)]).run Try.prog w =
      .ok (.slice (some ⟨w.heap.size, 0, none⟩) (i + (m + 1)) (grownCap w (i + (m + 1)) (i + m) 23)) (w.drew.alloc (.cells (pre.toArray ++ Builtin.zeroCells (Value.slice none 0 0).cells (m + 1) ++ Builtin.zeroCells (Value.slice none 0 0).cells (grownCap w (i + (m + 1)) (i + m) 23 - (i + (m + 1)))) 23)) := fun ty =>
    Lib.run_append_grow_zeros w 70 3 ty 23 i0 (.slice none 0 0) .i64 .i64 Try.underlying70 Try.underlying3 hinf hz0 (some ⟨g, 0, none⟩) i (i + m) pre hold (m + 1) (by omega) (by omega) (by omega) (by omega) (by rw [hz2]; omega) (by rw [hz2]; exact growslice_fits (by omega) (by omega))
  have hGn : i + (m + 1) ≤ grownCap w (i + (m + 1)) (i + m) 23 := grownCap_ge w _ _ _
  have hG63 := grownCap_le_maxLen w (i + (m + 1)) (i + m) 23 (by unfold maxLen; omega)
  generalize grownCap w (i + (m + 1)) (i + m) 23 = G at *
  obtain ⟨R, hR⟩ : ∃ R : Array Value, R = pre.toArray ++ Builtin.zeroCells (Value.slice none 0 0).cells (m + 1) ++ Builtin.zeroCells (Value.slice none 0 0).cells (G - (i + (m + 1))) := ⟨_, rfl⟩
  rw [← hR] at hrz
  have hRs : R.size = G := by rw [hR]; simp [size_zeroCells, Value.cells]; omega
  have hRt : R.toList.take i = pre := by
    rw [hR]
    simp only [Array.toList_append]
    rw [List.append_assoc, ← hi]
    exact List.take_left
  obtain ⟨N, hN⟩ : ∃ N, N = w.heap.size := ⟨_, rfl⟩
  rw [← hN] at hrz
  have hRl : R.toList.length = G := by simpa using hRs
  have hblk0 : Blk (w.drew.alloc (.cells R 23)) N 23 R := by rw [hN]; exact Blk.new w.drew _ _
  have hx0 : Blk (w.drew.alloc (.cells R 23)) gx 23 #[x] := (show Blk w.drew gx 23 #[x] from hx).alloc _
  have hg0 : Blk (w.drew.alloc (.cells R 23)) g 23 cur := (show Blk w.drew g 23 cur from hh).alloc _
  have hB0 : Below base w (w.drew.alloc (.cells R 23)) := (Below.refl base w).drew.alloc hbs _
  obtain ⟨W1, hW1⟩ : ∃ W1, W1 = w.drew.alloc (.cells R 23) := ⟨_, rfl⟩
  rw [← hW1] at hrz hblk0 hx0 hg0 hB0
  have hcp1 : ∀ ty dc, (Builtin.copy_ #[70, 70] ty #[.slice (some ⟨N, i, none⟩) (m + 1) dc, .slice (some ⟨gx, 0, none⟩) 1 1]).run Try.prog W1 = .ok (goInt 1) (W1.setRow N (R.toList.take i ++ [x] ++ R.toList.drop (i + 1)).toArray) := fun ty dc =>
    run_copy_row Try.prog W1 70 70 ty 23 N i (m + 1) dc ⟨gx, 0, none⟩ 1 1 R 23 [x] Try.underlying70 hsz hblk0 (show 1 = Nat.min 1 (m + 1) from (Nat.min_eq_left (by omega)).symm)
      (fun j v hj => by
        rw [Addr.add_lit]
        match j, hj with
        | 0, hj => simp at hj; subst hj; exact hx0.cell 0) (by simp; omega) (by simpa using h1x)
  obtain ⟨cur1, hcur1⟩ : ∃ cur1, cur1 = (R.toList.take i ++ [x] ++ R.toList.drop (i + 1)).toArray := ⟨_, rfl⟩
  rw [← hcur1] at hcp1
  have hc1s : cur1.size = G := by
    rw [hcur1]
    simp only [List.size_toArray, List.length_append, List.length_take, List.length_drop, List.length_singleton, hRl]
    omega
  have hgN : g ≠ N := by omega
  have hblk1 : Blk (W1.setRow N cur1) N 23 cur1 := setRow_heap W1 N R _ _ _ hblk0
  have hg1 : Blk (W1.setRow N cur1) g 23 cur := (setRow_other W1 N g _ hgN).trans hg0
  have hB1 : Below base w (W1.setRow N cur1) := ⟨hB0.os, hB0.tape, hB0.output, by simpa [World.setRow] using hB0.size, fun j hj => (setRow_other W1 N j _ (by omega)).trans (hB0.block j hj)⟩
  obtain ⟨W2, hW2⟩ : ∃ W2, W2 = W1.setRow N cur1 := ⟨_, rfl⟩
  rw [← hW2] at hcp1 hblk1 hg1 hB1
  have hcp2 : ∀ ty dc sc, (Builtin.copy_ #[70, 70] ty #[.slice (some ⟨N, i + 1, none⟩) m dc, .slice (some ⟨g, i, none⟩) m sc]).run Try.prog W2.drew = .ok (goInt m) (W2.drew.setRow N (cur1.toList.take (i + 1) ++ post ++ cur1.toList.drop (i + 1 + m)).toArray) := fun ty dc sc => by
    have h := run_copy_row Try.prog W2.drew 70 70 ty 23 N (i + 1) m dc ⟨g, i, none⟩ m sc cur1 23 post Try.underlying70 hsz hblk1 (by rw [hm]; exact (Nat.min_self m).symm)
      (fun j v hj => by
        rw [Addr.add_lit]
        have hjm : j < m := by have := (List.getElem?_eq_some_iff.1 hj).1; omega
        have h2 := hcell (i + j) v (by rw [List.getElem?_append_right (by omega), hi, show i + j - i = j by omega]; exact hj)
        rw [show w.cell? ⟨g, i + j, none⟩ = cur[i + j]? from Blk.cell (t := 23) hh _] at h2
        exact (hg1.cell (i + j)).trans h2) (by rw [hm, hc1s]; omega) h1
    rw [hm] at h
    exact h
  obtain ⟨cur2, hcur2⟩ : ∃ cur2, cur2 = (cur1.toList.take (i + 1) ++ post ++ cur1.toList.drop (i + 1 + m)).toArray := ⟨_, rfl⟩
  rw [← hcur2] at hcp2
  have hc1l : cur1.toList.length = G := by simpa using hc1s
  have hown2 : (W2.drew.setRow N cur2).ownsRow base 23 1 (.slice (some ⟨N, 0, none⟩) (i + 1 + m) G) (i + 1 + m) (pre ++ x :: post) := by
    refine ⟨by simp [hi, hm]; omega, .inr ⟨N, G, cur2, rfl, by omega, setRow_heap W2.drew N cur1 _ _ _ hblk1, by omega, hG63, ?_, ?_⟩⟩
    · rw [hcur2]
      simp only [List.size_toArray, List.length_append, List.length_take, List.length_drop, hc1l]
      omega
    · rw [hcur2, hcur1, Nat.mul_one]
      exact ins_b hRt hi hm
  have hB2 : Below base w (W2.drew.setRow N cur2) := ⟨hB1.os, hB1.tape, hB1.output, by simpa [World.setRow] using hB1.size, fun j hj => (setRow_other W2.drew N j _ (by omega)).trans (hB1.block j hj)⟩
  have hw63 : G ≤ 9223372036854775807 := hG63
  clear hown hh hcs ht htk hcell hold hR hRs hRt hRl hblk0 hx0 hg0 hB0 hW1 hcur1 hc1s hblk1 hg1 hB1 hW2 hcur2 hc1l hcm h1 h1x hi hm hx hinf hz0 hz1 hz2 hsz hG63 hN hglt hgx hbs
  have hb1 : ¬ ((i : Int) = (i : Int) + (m : Int)) := by omega
  have hb2 : ¬ (G = i) := by omega
  have hb3 : ¬ (G = i + 1) := by omega
  have hb4 : ¬ (i + m = i) := by omega
  have heq : i + (m + 1) - i = m + 1 := by omega
  have heq2 : i + (m + 1) - (i + 1) = m := by omega
  have heq3 : i + m - i = m := by omega
  have hW : IntKind.i64.wrap ((i : Int) + 1) = (i : Int) + 1 := wrap_small _ (by omega) (by omega)
  have hTN : ((i : Int) + 1).toNat = i + 1 := by omega
  have hA1 : (i : Int) ≤ (i : Int) + 1 := by omega
  have hA2 : (i : Int) + 1 ≤ (i : Int) + ((m : Int) + 1) := by omega
  have hA3 : (0 : Int) ≤ (i : Int) + 1 := by omega
  have hA4 : (i : Int) ≤ (i : Int) + ((m : Int) + 1) := by omega
  have hA5 : (i : Int) ≤ (i : Int) + (m : Int) := by omega
  go_enter Try.func58, Try.ntmps58
  go_wp2_with (at_builtin; go_loud (refine Lib.wpList_append_run _ rfl (.tmp 34) (.tmp 39) 70 3 rfl (.slice (some ⟨g, 0, none⟩) i (i + m)) (.int .i64 ((m + 1 : Nat) : Int)) rfl (by show Value.int _ _ = Value.int _ _; congr 1; omega) _ _ (hrz _) ?_))
  go_wp2_with (at_builtin; go_loud (refine Lib.wpList_copy_run _ rfl (.tmp 43) (.tmp 44) 70 70 rfl (.slice (some ⟨N, i, none⟩) (m + 1) (G - i)) (.slice (some ⟨gx, 0, none⟩) 1 1) (show Value.slice (some ⟨N, i, none⟩) (i + (m + 1) - i) (G - i) = _ by rw [heq]) rfl (hcp1 _ _) ?_))
  go_region_law (first
    | (refine step_copy_runI2 rfl (.tmp 50) (.tmp 53) 70 70 rfl (.slice (some ⟨N, i + 1, none⟩) m (G - (i + 1))) (.slice (some ⟨g, i, none⟩) m m) (by simp [Act.eval, Act.put] <;> omega) (by simp [Act.eval, Act.put] <;> omega) (hcp2 _ _ _) ?_)
    | fail)
  go_wp2_with fail
  go_ret
  exact ⟨N, G, by rw [show i + 1 + m = i + (m + 1) by omega]; rfl, hown2, hB2⟩
theorem insert_any (pre post : List Value) (x : Value) (base g gx c i m : Nat) (w : World) (hi : pre.length = i) (hm : post.length = m) (hm1 : 1 ≤ m) (hown : w.ownsRow base 23 1 (.slice (some ⟨g, 0, none⟩) (i + m) c) (i + m) (pre ++ post))
    (hx : Blk w gx 23 #[x]) (hne : gx ≠ g) (h1 : ∀ u ∈ post, u.oneCell' = true) (h1x : x.oneCell' = true) (him : i + m ≤ 1000) (hbs : base ≤ w.heap.size) :
    Calls Try.prog 58 #[.slice (some ⟨g, 0, none⟩) (i + m) c, .int .i64 i, .slice (some ⟨gx, 0, none⟩) 1 1] w fun e w' => ∃ g' c', e = .returned (.slice (some ⟨g', 0, none⟩) (i + 1 + m) c') ∧ w'.ownsRow base 23 1 (.slice (some ⟨g', 0, none⟩) (i + 1 + m) c') (i + 1 + m) (pre ++ x :: post) ∧ Below base w w' := by
  rcases Nat.lt_or_ge c (i + m + 1) with h | h
  · exact insert_grow pre post x base g gx c i m w hi hm hm1 hown hx h1 h1x him h hbs
  · exact insert_room pre post x base g gx c i m w hi hm hm1 hown hx hne h1 h1x him h
end Go.Proofs.Ytfjdlbilnoojkaa
