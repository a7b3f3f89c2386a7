/- slices.Clone and slices.Delete of lists of rows: the outer slice is the call's own; its elements are one cell each. -/
import Derived.Test.YtfjdlbilnoojkaaPicksz
import Derived.Test.YtfjdlbilnoojkaaOwnUz
import Derived.Lib.SliceRun
import Derived.Deep.RegionLaw
namespace Go.Proofs.Ytfjdlbilnoojkaa
open Go.RowKit Go.Lib

set_option maxHeartbeats 4000000 in
set_option maxRecDepth 100000 in
theorem clone2_any (ad : Addr) (n c : Nat) (xs : List Value) (w : World) (hr : Rd w (some ad) n xs) (h1 : ∀ u ∈ xs, u.oneCell' = true) (hn : n ≤ 1000) :
    Calls Try.prog 56 #[.slice (some ad) n c] w fun e w' => ∃ A' c', e = .returned (.slice A' n c') ∧ w'.ownsRow w.heap.size 23 1 (.slice A' n c') n xs ∧ Below w.heap.size w w' := by
  obtain ⟨i0, hi, hz0, hz1, hz2⟩ := info_parts Try.infoRow
  have hown0 : (w.alloc (.cells #[] 23)).drew.ownsRow w.heap.size 23 1 (.slice (some ⟨w.heap.size, 0, none⟩) 0 0) 0 [] := World.ownsRow_lit w #[] 0 (by omega) (Nat.zero_le _) rfl
  have hr0 : Rd (w.alloc (.cells #[] 23)).drew (some ad) n xs := (hr.alloc _).drew
  have q22 : ∀ (w : World) (a : Option Addr) (n c n' c' : Nat), (binOp .eql 70 (.slice a n c) (.slice none n' c')).run Try.prog w = .ok (.bool a.isNone) w := fun w a n c n' c' => Lib.run_eql_slice_nil w _ _ a n c n' c' Try.underlying70
  have hB0 : Below w.heap.size w (w.alloc (.cells #[] 23)) := (Below.refl _ _).alloc (Nat.le_refl _) _
  go_enter Try.func56, Try.ntmps56
  go_wp2_with (first
    | (at_builtin; go_loud (refine wpList_app_all _ rfl (.tmp 5) (.tmp 6) 70 rfl w.heap.size 23 i0 (.slice none 0 0) 24 Try.underlying70 hi hz0 hz1 hz2 rfl (by decide) (.slice (some ⟨w.heap.size, 0, none⟩) 0 0) 0 [] rfl hown0 (some ad) n c _ rfl hr0 h1 (by omega) (by simp) ?_))
    | fail)
  intro A' c' w' hown hgr
  go_wp2_with fail
  go_ret
  exact ⟨A', c', rfl, by simpa using hown, hB0.grown hgr (by simp) (fun k hk => by simp [Value.ownBlock] at hk; omega)⟩

theorem step_append_runE {P : Program} {ops : Array Oper} {o : Oper} {a : Act} {w : World} {K : Act → World → Prop} {Q : Exit → Act → World → Prop} {E : Prop}
    (hg : o.guard = none) (d x : Operand) (dT sT : TypeId) (hop : o.op = Op.call { callee := Callee.builtin Builtin.append, args := #[d, x], argTypes := #[dT, sT] })
    (v u : Value) (hd : a.eval d = v) (hx : a.eval x = u) {v' : Value} {w' : World} (hr : (Builtin.append_ #[dT, sT] o.type #[v, u]).run P w = .ok v' w') (hK : K (a.put o.dst v') w') :
    if Region.wanted o (yielded ops a.tmps) = true then Oper.wp P o a w K Q else E := by
  have hw : Region.wanted o (yielded ops a.tmps) = true := by simp [Region.wanted, hg]
  rw [if_pos hw]
  unfold Oper.wp
  simp [execOp, hop, resolve, invoke, builtin, hd, hx, hr, Result.andThen]
  exact hK
theorem wpList_clear_runE {P : Program} (w : World) {ops : Array Oper} {rest : List Oper} {o : Oper} {a : Act} {Q : Exit → Act → World → Prop} (hgd : o.guard = none) (s : Operand) (t : TypeId)
    (ho : o.op = .call { callee := .builtin .clear, args := #[s], argTypes := #[t] }) (v : Value) (hs : a.eval s = v) {v' : Value} {w' : World}
    (hr : (Builtin.clear_ #[t] o.type #[v]).run P w = .ok v' w') (h : wpList P ops Q rest (a.put o.dst v') w') : wpList P ops Q (o :: rest) a w :=
  wpList_plain hgd fun _ hK => by
    unfold Oper.wp execOp
    simp only [ho, resolve, invoke, builtin, Sem.run_bind, Sem.run_pure, Result.andThen_ok, List.map_toArray, List.map_cons, List.map_nil, hs, hr]
    exact hK _ _ h
theorem own_beyond {w : World} {base e g n c j : Nat} {xs : List Value} (h : w.ownsRow base e 1 (.slice (some ⟨g, 0, none⟩) n c) n xs) (hj : n ≤ j) (v : Value) : (w.setCell ⟨g, j, none⟩ v).ownsRow base e 1 (.slice (some ⟨g, 0, none⟩) n c) n xs := by
  refine ⟨h.1, ?_⟩
  rcases h.2 with ⟨h0, _⟩ | ⟨g', cap, cur, hv, hb, hh, hnc, hcm, hcs, ht⟩
  · cases h0
  · injection hv with e1 _ e3
    injection e1 with e1
    injection e1 with e1
    subst e1 e3
    refine .inr ⟨g, c, cur.setIfInBounds j v, rfl, hb, Blk.set_ (show Blk w g e cur from hh) j v, hnc, hcm, by simpa using hcs, ?_⟩
    rw [← ht]
    simp only [Array.toList_setIfInBounds]
    rw [List.take_set_of_le (by omega)]
set_option maxHeartbeats 4000000 in
set_option maxRecDepth 100000 in
theorem delete_any (pre post : List Value) (x : Value) (base g c k m : Nat) (w : World) (hk : pre.length = k) (hm : post.length = m) (hown : w.ownsRow base 23 1 (.slice (some ⟨g, 0, none⟩) (k + 1 + m) c) (k + 1 + m) (pre ++ x :: post))
    (h1 : ∀ u ∈ post, u.oneCell' = true) (hkm : k + 1 + m ≤ 1000) :
    Calls Try.prog 57 #[.slice (some ⟨g, 0, none⟩) (k + 1 + m) c, .int .i64 k, .int .i64 ((k : Int) + 1)] w fun e w' => e = .returned (.slice (some ⟨g, 0, none⟩) (k + m) c) ∧ w'.ownsRow base 23 1 (.slice (some ⟨g, 0, none⟩) (k + m) c) (k + m) (pre ++ post) ∧ Below base w w' := by
  obtain ⟨i0, hi, hz0, hz1, hz2⟩ := info_parts Try.infoRow
  obtain ⟨cur, hbg, hh, hnc, hcm, hcs, ht⟩ : ∃ cur, base ≤ g ∧ w.heap[g]? = some (.cells cur 23 (0, 0)) ∧ k + 1 + m ≤ c ∧ c ≤ maxLen ∧ cur.size = c ∧ cur.toList.take (k + 1 + m) = pre ++ x :: post := by
    rcases hown.2 with ⟨h0, _⟩ | ⟨g', cap, cur, hv, hb, hh, hnc, hcm, hcs, ht⟩
    · cases h0
    · injection hv with e1 _ e3
      injection e1 with e1
      injection e1 with e1
      subst e1 e3
      exact ⟨cur, hb, hh, hnc, hcm, by simpa using hcs, by simpa using ht⟩
  -- the cells behind the append
  have hpl : cur.toList.length = c := by simpa using hcs
  obtain ⟨cur1, hcur1⟩ : ∃ cur1 : Array Value, cur1 = (cur.toList.take (k * 1) ++ post ++ cur.toList.drop (k * 1 + post.length)).toArray := ⟨_, rfl⟩
  have htk : cur.toList.take k = pre := by
    have h2 := congrArg (List.take k) ht
    rw [List.take_take, show min k (k + 1 + m) = k by omega] at h2
    rw [h2, ← hk]
    exact List.take_left
  have hc1s : cur1.size = c := by
    rw [hcur1]
    simp only [List.size_toArray, List.length_append, List.length_take, List.length_drop, Array.length_toList]
    omega
  have hc1t : cur1.toList.take (k + m) = pre ++ post := by
    rw [hcur1, Nat.mul_one, htk, ← hk, ← hm, ← List.length_append]
    exact List.take_left
  have hpost : ∀ j y, post[j]? = some y → w.cell? ⟨g, k + 1 + j, none⟩ = some y := fun j y hj => by
    have hjm : j < m := by have := (List.getElem?_eq_some_iff.1 hj).1; omega
    rw [cell_of_row w g _ cur _ (0, 0) hh]
    have h2 : (cur.toList.take (k + 1 + m))[k + 1 + j]? = some y := by
      rw [ht, List.getElem?_append_right (by omega), hk, show k + 1 + j - k = j + 1 by omega, List.getElem?_cons_succ]
      exact hj
    rw [List.getElem?_take, if_pos (by omega)] at h2
    simpa using h2
  have HRUN := Lib.hid (fun ty (a : Addr) cc (ha : 0 < m → a = ⟨g, k + 1, none⟩) => show (Builtin.append_ #[70, 70] ty #[.slice (some ⟨g, 0, none⟩) k c, .slice (some a) m cc]).run Try.prog w.drew = .ok (.slice (some ⟨g, 0, none⟩) (k + m) c) (w.drew.setRow g cur1) from by
    have hr := run_append_room (P := Try.prog) w.drew 70 ty 23 i0 Try.underlying70 hi g k c cur hh a m cc post (by rw [hz1, hm, Nat.mul_one]) (fun j y hj => by
      have hjm : j < m := by have := (List.getElem?_eq_some_iff.1 hj).1; omega
      rw [ha (by omega), Addr.add_lit]
      exact hpost j y hj) h1 (by omega) (by rw [hz1, hm, hcs]; omega)
    rw [hz1] at hr
    rw [hcur1]
    exact hr)
  have hd0 : w.drew.heap[g]? = some (.cells cur 23 (0, 0)) := hh
  have hown1 : (w.drew.setRow g cur1).ownsRow base 23 1 (.slice (some ⟨g, 0, none⟩) (k + m) c) (k + m) (pre ++ post) :=
    ⟨by simp [hk, hm], .inr ⟨g, c, cur1, rfl, hbg, setRow_heap w.drew g cur _ _ _ hd0, by omega, hcm, by simpa using hc1s, by simpa using hc1t⟩⟩
  have hB1 : Below base w (w.drew.setRow g cur1) := ⟨rfl, rfl, rfl, by simp [World.setRow], fun j hj => setRow_other w.drew g j _ (by omega)⟩
  have hblk1 : Blk (w.drew.setRow g cur1) g 23 cur1 := setRow_heap w.drew g cur _ _ _ hd0
  obtain ⟨w1, hw1⟩ : ∃ w1, w1 = w.drew.setRow g cur1 := ⟨_, rfl⟩
  rw [← hw1] at hown1 hB1 hblk1 HRUN
  have hclr : ∀ ty cc, (Builtin.clear_ #[70] ty #[.slice (some ⟨g, k + m, none⟩) 1 cc]).run Try.prog w1 = .ok (.tuple #[]) (w1.setCell ⟨g, k + m, none⟩ (.slice none 0 0)) := fun ty cc =>
    run_clear_slice w1 70 23 ty (.slice none 0 0) Try.underlying70 (fun w => by simp [zeroValue, typeInfo, hi, hz0]) rfl rfl g (k + m) 1 cc (by omega)
      (fun j hj => by rw [hblk1.cell, Array.getElem?_eq_getElem (by omega)]; rfl) (fun j _ => hblk1.frozen _)
  have hown2 := own_beyond hown1 (Nat.le_refl (k + m)) (.slice none 0 0)
  have hB2 := hB1.setCell (p := ⟨g, k + m, none⟩) hbg (.slice none 0 0)
  have hcc : ¬ c = k := by omega
  have hw63 : c ≤ 9223372036854775807 := hcm
  clear hown hh hcs ht hpl hcur1 htk hc1s hc1t hpost hd0 hown1 hB1 hblk1 hw1 hcm h1 hi hz0 hz1 hz2
  have hne : ¬ ((k : Int) = (k : Int) + 1) := by omega
  have hbeq : ((k : Int) == (k : Int) + 1) = false := by simpa using hne
  have hA1 : (k : Int) ≤ (k : Int) + 1 := by omega
  have hA2 : (k : Int) ≤ (c : Int) := by omega
  have hA3 : (k : Int) + 1 ≤ (c : Int) := by omega
  have hA4 : (k : Int) + 1 ≤ (k : Int) + 1 + (m : Int) := by omega
  have hA5 : (k : Int) + 1 + (m : Int) ≤ (c : Int) := by omega
  have hA6 : (0 : Int) ≤ (k : Int) + 1 := by omega
  by_cases hck : c = k + 1
  · obtain rfl : m = 0 := by omega
    subst hck
    simp only [Nat.add_zero] at hclr hown2 hB2 HRUN ⊢
    go_enter Try.func57, Try.ntmps57
    go_wp2_with fail
    go_region_law (first
      | (refine step_append_runE rfl (.tmp 22) (.tmp 25) 70 70 rfl (.slice (some ⟨g, 0, none⟩) k (k + 1)) (.slice (some ⟨g, 0, none⟩) 0 (k + 1 - (k + 1))) (by simp [Act.eval, Act.put]) (by simp [Act.eval, Act.put] <;> omega) (HRUN.out _ _ _ (fun _ => by first | rfl | omega)) ?_)
      | fail)
    go_wp2_with (simp only [hclr])
    go_ret
    exact ⟨rfl, hown2, hB2⟩
  · have hcc2 : ¬ (c = k + 1) := hck
    have hone : k + 1 + m - (k + m) = 1 := by omega
    go_enter Try.func57, Try.ntmps57
    go_wp2_with fail
    go_region_law (first
      | (refine step_append_runE rfl (.tmp 22) (.tmp 25) 70 70 rfl (.slice (some ⟨g, 0, none⟩) k (c)) (.slice (some ⟨g, k + 1, none⟩) m (c - (k + 1))) (by simp [Act.eval, Act.put]) (by simp [Act.eval, Act.put] <;> omega) (HRUN.out _ _ _ (fun _ => by first | rfl | omega)) ?_)
      | fail)
    go_wp2_with (simp only [hone])
    go_ret
    exact ⟨rfl, hown2, hB2⟩
end Go.Proofs.Ytfjdlbilnoojkaa
