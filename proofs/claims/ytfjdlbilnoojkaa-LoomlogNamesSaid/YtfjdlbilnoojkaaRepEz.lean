/- slices.Repeat of a list of one event (back). -/
import Derived.Test.YtfjdlbilnoojkaaMg4z
import Derived.Test.YtfjdlbilnoojkaaMg3z
import Derived.Laws.CopyRow
import Derived.Lib.SlBuf
import Derived.Deep.RegionLaw
namespace Go.Proofs.Ytfjdlbilnoojkaa
open Go.RowKit

theorem mul_oneE (n : Nat) (w : World) (h : n ≤ 64) : Calls Try.prog 55 #[.int .u64 1, .int .u64 n] w fun e w' => e = .returned (.tuple #[.int .u64 0, .int .u64 n]) ∧ w' = w := by
  go_enter Try.func55, Try.ntmps55
  go_wp2_with fail
  refine (mul64_one n _ h).mono ?_
  rintro e w1 ⟨rfl, rfl⟩
  go_wp2_with fail
  go_ret2
  exact ⟨rfl, rfl⟩
/-- Cell j of n events of which the first m are back. -/
def evC (m j : Nat) : Value := if j % 2 = 1 then .slice none 0 0 else if j < m * 2 then .int .u8 2 else .int .u8 0
def repE (m n : Nat) : List Value := (List.range (n * 2)).map (evC m)
theorem repE_length (m n : Nat) : (repE m n).length = n * 2 := by simp [repE]
theorem repE_get {m n j : Nat} (h : j < n * 2) : (repE m n)[j]? = some (evC m j) := by unfold repE; rw [List.getElem?_map, List.getElem?_range h]; rfl
theorem repE_made (n : Nat) : (madeCells (Value.agg #[.int .u8 0, .slice none 0 0]).cells (n * 2)).toList = repE 0 n := by
  refine List.ext_getElem? fun j => ?_
  by_cases hj : j < n * 2
  · rw [repE_get hj]
    unfold madeCells evC
    rw [if_neg (show ¬ j < 0 * 2 by omega)]
    simp only [Array.toList_map, Array.toList_range, List.getElem?_map, List.getElem?_range hj, Option.map_some]
    rcases (show j % 2 = 0 ∨ j % 2 = 1 by omega) with h | h <;> simp [Value.cells, h]
  · rw [List.getElem?_eq_none (by simp [size_madeCells]; omega), List.getElem?_eq_none (by rw [repE_length]; omega)]
theorem repE_step {m k n : Nat} (h : m + k ≤ n) : (repE m n).take (m * 2) ++ (List.range (k * 2)).map (evC k) ++ (repE m n).drop (m * 2 + k * 2) = repE (m + k) n := by
  refine List.ext_getElem? fun j => ?_
  by_cases h1 : j < m * 2
  · rw [List.append_assoc, List.getElem?_append_left (by rw [List.length_take, repE_length]; omega), List.getElem?_take, if_pos h1, repE_get (by omega), repE_get (by omega)]
    unfold evC
    rw [if_pos h1, if_pos (show j < (m + k) * 2 by omega)]
  · rw [List.append_assoc, List.getElem?_append_right (by rw [List.length_take, repE_length]; omega), List.length_take, repE_length, show min (m * 2) (n * 2) = m * 2 by omega]
    by_cases h2 : j < m * 2 + k * 2
    · rw [List.getElem?_append_left (by simp; omega), List.getElem?_map, List.getElem?_range (by omega), repE_get (by omega), Option.map_some]
      unfold evC
      rw [if_pos (show j - m * 2 < k * 2 by omega), if_pos (show j < (m + k) * 2 by omega), show (j - m * 2) % 2 = j % 2 by omega]
    · rw [List.getElem?_append_right (by simp; omega), List.length_map, List.length_range, List.getElem?_drop, show m * 2 + k * 2 + (j - m * 2 - k * 2) = j by omega]
      by_cases h3 : j < n * 2
      · rw [repE_get h3, repE_get h3]
        unfold evC
        rw [if_neg h1, if_neg (show ¬ j < (m + k) * 2 by omega)]
      · rw [List.getElem?_eq_none (by rw [repE_length]; omega), List.getElem?_eq_none (by rw [repE_length]; omega)]
section
variable {P : Program}
theorem run_copy_row2 (w : World) (dT sT ty elem : TypeId) (g o dLen dCap : Nat) (a : Addr) (sLen sCap : Nat) (cur : Array Value) (t : TypeId) (cs : List Value)
    (hu : P.underlying dT = some (.slice elem)) (hs : (P.info? elem).map (·.size) = some 2)
    (hg : w.heap[g]? = some (.cells cur t (0, 0))) (hn : cs.length = Nat.min sLen dLen * 2)
    (hsrc : ∀ j v, cs[j]? = some v → w.cell? (a.add j) = some v) (hfit : o + cs.length ≤ cur.size) (h1 : ∀ v ∈ cs, v.oneCell' = true) :
    (Builtin.copy_ #[dT, sT] ty #[.slice (some ⟨g, o, none⟩) dLen dCap, .slice (some a) sLen sCap]).run P w =
      .ok (goInt (Nat.min sLen dLen)) (w.setRow g (cur.toList.take o ++ cs ++ cur.toList.drop (o + cs.length)).toArray) := by
  have hl := run_loadCells_list (P := P) w a cs hsrc
  have hst := run_storeCells_at P g o t cs 0 cur w hg (by simpa using hfit) h1
  cases hq : P.info? elem with
  | none => simp [hq] at hs
  | some i =>
    have hi : i.size = 2 := by simpa [hq] using hs
    simp [Builtin.copy_, run_underlying hu, Builtin.lenOf, Builtin.firstCells, sizeOf, typeInfo, hq, hi, ← hn, hl, hst]
end
theorem evC_one (m : Nat) : ∀ u ∈ (List.range (m * 2)).map (evC m), u.oneCell' = true := by
  intro u hu
  obtain ⟨j, _, rfl⟩ := List.mem_map.1 hu
  unfold evC
  split
  · rfl
  · split <;> rfl
theorem setRow_atE {w : World} {g : Nat} {cur cur' : Array Value} {t : TypeId} (h : w.heap[g]? = some (.cells cur t (0, 0))) : (w.setRow g cur').heap[g]? = some (.cells cur' t (0, 0)) := by simp [World.setRow, Array.getElem?_modify, h]
theorem below_setRowE {B : Nat} {w w' : World} {g : Nat} {cur : Array Value} (h : Below B w w') (hB : B ≤ g) : Below B w (w'.setRow g cur) :=
  ⟨h.os, h.tape, h.output, by simpa [World.setRow] using h.size, fun k hk => by
    have := h.block k hk
    rw [← this]
    simp only [World.setRow, Array.getElem?_modify]
    rw [if_neg (by omega)]⟩
/-- A copy of k events back behind the first m. -/
theorem copy_repE (w : World) (g m k n dCap sLen sCap : Nat) (a : Addr) (ty : TypeId) (hsz : (Try.prog.info? 59).map (·.size) = some 2) (hh : w.heap[g]? = some (.cells (repE m n).toArray 59 (0, 0)))
    (hmk : m + k ≤ n) (hk : k = Nat.min sLen (n - m)) (hsrc : ∀ j, j < k * 2 → w.cell? (a.add j) = some (evC k j)) :
    ∃ w', (Builtin.copy_ #[22, 22] ty #[.slice (some ⟨g, m * 2, none⟩) (n - m) dCap, .slice (some a) sLen sCap]).run Try.prog w = .ok (.int .i64 k) w' ∧
      w'.heap[g]? = some (.cells (repE (m + k) n).toArray 59 (0, 0)) ∧ ∀ B w0, Below B w0 w → B ≤ g → Below B w0 w' := by
  refine ⟨w.setRow g ((repE m n).toArray.toList.take (m * 2) ++ (List.range (k * 2)).map (evC k) ++ (repE m n).toArray.toList.drop (m * 2 + ((List.range (k * 2)).map (evC k)).length)).toArray, ?_, ?_, ?_⟩
  · rw [run_copy_row2 w 22 22 ty 59 g (m * 2) (n - m) dCap a sLen sCap _ _ ((List.range (k * 2)).map (evC k)) Try.underlying22 hsz hh (by rw [List.length_map, List.length_range, hk])
      (fun j u hj => by
        have hjk : j < k * 2 := by
          have := (List.getElem?_eq_some_iff.1 hj).1
          simpa using this
        rw [hsrc j hjk]
        rw [List.getElem?_map, List.getElem?_range hjk] at hj
        exact hj) (by simp [repE_length]; omega) (evC_one k)]
    rw [← hk]
    rfl
  · rw [setRow_atE hh]
    simp only [List.length_map, List.length_range]
    rw [repE_step hmk]
  · intro B w0 hb hB
    exact below_setRowE hb hB
/-- n events back, as a list of events. -/
theorem repE_LE {w : World} {g n base : Nat} (hh : w.heap[g]? = some (.cells (repE n n).toArray 59 (0, 0))) (hb : base ≤ g) (hn : n ≤ 1000) :
    LE w base 59 4 (.slice (some ⟨g, 0, none⟩) n n) n (List.replicate n ((2 : Int), ([] : List Bool))) := by
  refine ⟨by simp, repE n n, ⟨repE_length n n, .inr ⟨g, n, (repE n n).toArray, rfl, hb, hh, Nat.le_refl _, by unfold maxLen; omega, by simp [repE_length], List.take_of_length_le (by simp [repE_length])⟩⟩, fun i q r hi => ?_⟩
  have hin : i < n := by
    have := (List.getElem?_eq_some_iff.1 hi).1
    simpa using this
  rw [List.getElem?_replicate_of_lt hin] at hi
  injection hi with e
  injection e with e1 e2
  subst e1 e2
  refine ⟨?_, none, 0, ?_, Rd.nil_, fun b o h => by cases h⟩
  · rw [repE_get (by omega)]
    unfold evC
    rw [if_neg (by omega), if_pos (by omega)]
  · rw [repE_get (by omega)]
    unfold evC
    rw [if_pos (by omega)]
    rfl
/-- A copy as one step of a region that draws. -/
theorem step_copy_runE {P : Program} {ops : Array Oper} {o : Oper} {a : Act} {w : World} {K : Act → World → Prop} {Q : Exit → Act → World → Prop} {E : Prop} (hg : o.guard = none) (d s : Operand) (t t' : TypeId)
    (ho : o.op = .call { callee := .builtin .copy, args := #[d, s], argTypes := #[t, t'] }) (v u : Value) (hd : a.eval d = v) (hs : a.eval s = u) {v' : Value} {w' : World}
    (hr : (Builtin.copy_ #[t, t'] o.type #[v, u]).run P w = .ok v' w') (h : K (a.put o.dst v') w') : if Region.wanted o (yielded ops a.tmps) = true then Oper.wp P o a w K Q else E := by
  have hw : Region.wanted o (yielded ops a.tmps) = true := by simp [Region.wanted, hg]
  rw [if_pos hw]
  exact Lib.wp_copy_run w d s t t' ho v u hd hs hr h
theorem own_cells2 {w : World} {base g n : Nat} {e : TypeId} {xs : List Value} (h : w.ownsRow base e 2 (.slice (some ⟨g, 0, none⟩) n n) n xs) : w.heap[g]? = some (.cells xs.toArray e (0, 0)) ∧ base ≤ g := by
  rcases h.2 with ⟨h0, _⟩ | ⟨g', cap, cur, hv, hb, hh, hnc, hcm, hcs, ht⟩
  · cases h0
  · injection hv with h1 h2 h3
    injection h1 with h1
    injection h1 with h1
    subst h1 h3
    refine ⟨?_, hb⟩
    rw [List.take_of_length_le (by simp [hcs])] at ht
    rw [hh, ← ht]
set_option maxHeartbeats 2000000 in
set_option maxRecDepth 100000 in
theorem repE_any (b n : Nat) (w : World) (hbk : Blk w b 59 #[.int .u8 2, .slice none 0 0]) (hn : n ≤ 64) :
    Calls Try.prog 44 #[.slice (some ⟨b, 0, none⟩) 1 1, .int .i64 n] w fun e w' => ∃ A c, e = .returned (.slice A n c) ∧
      LE w' w.heap.size 59 4 (.slice A n c) n (List.replicate n ((2 : Int), ([] : List Bool))) ∧ Below w.heap.size w w' := by
  obtain ⟨i0, hi, hz0, hz1, hz2⟩ := info_parts2 Try.infoEv
  have hsz : (Try.prog.info? 59).map (·.size) = some 2 := by rw [hi]; simp [hz1]
  have HM := Lib.hid (fun W => mul_oneE n W hn)
  have HBK := Lib.hid hbk
  clear hbk
  go_enter Try.func44, Try.ntmps44
  go_wp2_with fail
  refine (HM.out _).mono ?_
  rintro e w1 ⟨rfl, rfl⟩
  go_wp2_with (at_make; go_loud (refine wpList_make_full _ rfl _ _ 22 rfl w1.heap.size 59 i0 (.agg #[.int .u8 0, .slice none 0 0]) 2 Try.underlying22 hi hz0 hz1 _ _ _ _ n rfl rfl ?c1 ?c1' ?c2 ?c3 ?c4 ?_))
  case c1 => rfl
  case c1' => rfl
  case c2 => rw [hz2]; omega
  case c3 => unfold maxLen; omega
  case c4 => simp
  intro w2 hown1 hg1
  have hb2 : Below w1.heap.size w1 w2 := (Below.refl _ _).grown hg1 (Nat.le_refl _) (fun _ h => by cases h)
  replace hown1 : w2.ownsRow w1.heap.size 59 2 (.slice (some ⟨w1.heap.size, 0, none⟩) n n) n (repE 0 n) := by rw [← repE_made]; exact hown1
  obtain ⟨hh, _⟩ := own_cells2 hown1
  have hbk2 := HBK.out.keep hb2
  clear hown1 hg1
  obtain ⟨k0, hk0⟩ : ∃ k0, k0 = Nat.min 1 (n - 0) := ⟨_, rfl⟩
  have hk01 : k0 ≤ 1 ∧ k0 ≤ n ∧ (1 ≤ k0 ∨ n = 0) := by rw [hk0]; show min 1 (n - 0) ≤ 1 ∧ min 1 (n - 0) ≤ n ∧ (1 ≤ min 1 (n - 0) ∨ n = 0); omega
  obtain ⟨w3, hcp, hh3, hbb3⟩ := copy_repE w2 w1.heap.size 0 k0 n n 1 1 ⟨b, 0, none⟩ 3 hsz hh (by omega) hk0 (fun j hj => by
    have hj2 : j = 0 ∨ j = 1 := by omega
    rcases hj2 with rfl | rfl
    · rw [show ((⟨b, 0, none⟩ : Addr).add 0) = ⟨b, 0, none⟩ from rfl, hbk2.cell]
      unfold evC
      rw [if_neg (by decide), if_pos (by omega)]
      rfl
    · rw [show ((⟨b, 0, none⟩ : Addr).add 1) = ⟨b, 1, none⟩ from rfl, hbk2.cell]
      unfold evC
      rw [if_pos (by decide)]
      rfl)
  have hb3 := hbb3 _ _ hb2 (Nat.le_refl _)
  clear hh hb2 hbk2 hbb3 hk0
  simp only [Nat.sub_zero, Nat.zero_add, Nat.zero_mul] at hcp hh3
  go_wp2_with (at_builtin; go_loud (refine Lib.wpList_copy_run _ rfl (.tmp 31) (.tmp 32) 22 22 rfl _ _ rfl rfl hcp ?_))
  clear hcp
  go_wp2_with fail
  go_loopw [8] (fun i wr => ∃ m : Nat, (1 ≤ m ∨ n = 0) ∧ m ≤ n ∧ i = .int .i64 m ∧ wr.heap[w1.heap.size]? = some (.cells (repE m n).toArray 59 (0, 0)) ∧ Below w1.heap.size w1 wr) (fun i _ => n - (intOf i).toNat)
  case atStart => exact ⟨k0, hk01.2.2, hk01.2.1, rfl, hh3, hb3⟩
  case round =>
    clear hh3 hb3 hk01
    obtain ⟨m, hm1, hmn, rfl, hh, hb⟩ := hrel
    by_cases hlt : m < n
    · obtain ⟨k, hk⟩ : ∃ k, k = Nat.min m (n - m) := ⟨_, rfl⟩
      have hk2 : k ≤ m ∧ k ≤ n - m ∧ 1 ≤ k := by rw [hk]; show min m (n - m) ≤ m ∧ min m (n - m) ≤ n - m ∧ 1 ≤ min m (n - m); omega
      obtain ⟨w4, hcp, hh4, hbb4⟩ := copy_repE wr.drew w1.heap.size m k n (n - m) m n ⟨w1.heap.size, 0, none⟩ 3 hsz hh (by omega) hk (fun j hj => by
        have h5 : wr.cell? ⟨w1.heap.size, j, none⟩ = (repE m n).toArray[j]? := Blk.cell (t := 59) hh j
        have h6 : (repE m n).toArray[j]? = some (evC k j) := by
          rw [List.getElem?_toArray, repE_get (by omega)]
          unfold evC
          rw [if_pos (show j < m * 2 by omega), if_pos (show j < k * 2 by omega)]
        have ha : (⟨w1.heap.size, 0, none⟩ : Addr).add j = ⟨w1.heap.size, j, none⟩ := by
          unfold Addr.add
          simp
          intro hj0; exact hj0.symm
        rw [ha]
        exact h5.trans h6)
      have hb4 := hbb4 _ _ hb.drew (Nat.le_refl _)
      clear hh hb hbb4 hk
      have hw : IntKind.i64.wrap ((m : Int) + (k : Int)) = ((m + k : Nat) : Int) := by rw [IntWalk.i64_in _ (by omega)]; simp
      obtain ⟨mk, hmk⟩ : ∃ mk, mk = m + k := ⟨_, rfl⟩
      have hmk2 : m < mk ∧ mk ≤ n := by omega
      rw [← hmk] at hw hh4
      clear hmk
      go_wp2_with fail
      go_region_law (first
        | (refine step_copy_runE rfl (.tmp 41) (.tmp 44) 22 22 rfl (.slice (some ⟨w1.heap.size, m * 2, none⟩) (n - m) (n - m)) (.slice (some ⟨w1.heap.size, 0, none⟩) m n) (by simp [Act.eval, Act.put] <;> omega) (by simp [Act.eval, Act.put]) hcp ?_)
        | fail)
      go_wp2_with fail
      go_roundw
      case rel => exact ⟨mk, by omega, by omega, by first | rfl | trivial, by first | rfl | exact hh4⟩
      case measure => simp [intOf]; omega
    · have hmn2 : m = n := by omega
      have HB := Lib.hid hb
      subst hmn2
      have HO := Lib.hid (repE_LE (base := w1.heap.size) hh (Nat.le_refl _) (by omega))
      clear hh hb
      go_wp2_with fail
      go_ret
      exact ⟨_, _, rfl, HO.out, HB.out⟩
end Go.Proofs.Ytfjdlbilnoojkaa
