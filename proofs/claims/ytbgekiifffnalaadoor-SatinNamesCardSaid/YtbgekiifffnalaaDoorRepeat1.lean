/- slices.Repeat of a row of one bool. -/
import Derived.Test.YtbgekiifffnalaaDoorMul1
import Derived.Test.YtbgekiifffnalaaDoorRetB
import Derived.Test.YtbgekiifffnalaaDoorInfoB
import Derived.Test.YtbgekiifffnalaaDoorSt
import Derived.Laws.CopyRow
import Derived.Lib.SlBuf
import Derived.Deep.RegionLaw
namespace Go.Proofs.YtbgekiifffnalaaDoor
open Go.RowKit

theorem mul_one (n : Nat) (w : World) (h : n ≤ 64) : Calls Tryd.prog 44 #[.int .u64 1, .int .u64 n] w fun e w' => e = .returned (.tuple #[.int .u64 0, .int .u64 n]) ∧ w' = w := by
  go_enter Tryd.func44, Tryd.ntmps44
  go_wp2_with fail
  refine (mul64_one n _ h).mono ?_
  rintro e w1 ⟨rfl, rfl⟩
  go_wp2_with fail
  go_ret2
  exact ⟨rfl, rfl⟩

/-- The first m of n cells are set. -/
def repV (v : Bool) (m n : Nat) : List Value := List.replicate m (.bool v) ++ List.replicate (n - m) (.bool false)
theorem repV_length {v : Bool} {m n : Nat} (h : m ≤ n) : (repV v m n).length = n := by simp [repV]; omega
theorem repV_step {v : Bool} {m k n : Nat} : (repV v m n).take m ++ List.replicate k (Value.bool v) ++ (repV v m n).drop (m + k) = repV v (m + k) n := by
  unfold repV
  rw [List.take_append_of_le_length (by simp), List.take_of_length_le (by simp), List.drop_append, List.drop_eq_nil_of_le (by simp)]
  simp only [List.length_replicate, List.nil_append, List.drop_replicate]
  rw [show m + k - m = k by omega, show n - m - k = n - (m + k) by omega, ← List.replicate_append_replicate]
theorem repV_get {v : Bool} {m n j : Nat} (h : j < m) : (repV v m n)[j]? = some (.bool v) := by
  unfold repV
  rw [List.getElem?_append_left (by simpa using h)]
  simp [h]
/-- A copy as one step of a region that draws. -/
theorem step_copy_run {P : Program} {ops : Array Oper} {o : Oper} {a : Act} {w : World} {K : Act → World → Prop} {Q : Exit → Act → World → Prop} {E : Prop} (hg : o.guard = none) (d s : Operand) (t t' : TypeId)
    (ho : o.op = .call { callee := .builtin .copy, args := #[d, s], argTypes := #[t, t'] }) (v u : Value) (hd : a.eval d = v) (hs : a.eval s = u) {v' : Value} {w' : World}
    (hr : (Builtin.copy_ #[t, t'] o.type #[v, u]).run P w = .ok v' w') (h : K (a.put o.dst v') w') : if Region.wanted o (yielded ops a.tmps) = true then Oper.wp P o a w K Q else E := by
  have hw : Region.wanted o (yielded ops a.tmps) = true := by simp [Region.wanted, hg]
  rw [if_pos hw]
  exact Lib.wp_copy_run w d s t t' ho v u hd hs hr h
theorem own_cells {w : World} {base g n : Nat} {e : TypeId} {xs : List Value} (h : w.ownsRow base e 1 (.slice (some ⟨g, 0, none⟩) n n) n xs) : w.heap[g]? = some (.cells xs.toArray e (0, 0)) ∧ base ≤ g := by
  rcases h.2 with ⟨h0, _⟩ | ⟨g', cap, cur, hv, hb, hh, hnc, hcm, hcs, ht⟩
  · cases h0
  · injection hv with h1 h2 h3
    injection h1 with h1
    injection h1 with h1
    subst h1 h3
    refine ⟨?_, hb⟩
    rw [List.take_of_length_le (by simp [hcs])] at ht
    rw [hh, ← ht]
theorem setRow_at {w : World} {g : Nat} {cur cur' : Array Value} {t : TypeId} (h : w.heap[g]? = some (.cells cur t (0, 0))) : (w.setRow g cur').heap[g]? = some (.cells cur' t (0, 0)) := by simp [World.setRow, Array.getElem?_modify, h]
theorem below_setRow {B : Nat} {w w' : World} {g : Nat} {cur : Array Value} (h : Below B w w') (hB : B ≤ g) : Below B w (w'.setRow g cur) :=
  ⟨h.os, h.tape, h.output, by simpa [World.setRow] using h.size, fun k hk => by
    have := h.block k hk
    rw [← this]
    simp only [World.setRow, Array.getElem?_modify]
    rw [if_neg (by omega)]⟩

/-- A copy of k cells of v behind the first m. -/
theorem copy_rep (w : World) (g m k n dCap sLen sCap : Nat) (a : Addr) (v : Bool) (ty : TypeId) (hsz : (Tryd.prog.info? 4).map (·.size) = some 1) (hh : w.heap[g]? = some (.cells (repV v m n).toArray 4 (0, 0)))
    (hmk : m + k ≤ n) (hk : k = Nat.min sLen (n - m)) (hsrc : ∀ j, j < k → w.cell? (a.add j) = some (.bool v)) :
    ∃ w', (Builtin.copy_ #[22, 22] ty #[.slice (some ⟨g, m, none⟩) (n - m) dCap, .slice (some a) sLen sCap]).run Tryd.prog w = .ok (.int .i64 k) w' ∧
      w'.heap[g]? = some (.cells (repV v (m + k) n).toArray 4 (0, 0)) ∧ ∀ B w0, Below B w0 w → B ≤ g → Below B w0 w' := by
  refine ⟨w.setRow g ((repV v m n).toArray.toList.take m ++ List.replicate k (Value.bool v) ++ (repV v m n).toArray.toList.drop (m + (List.replicate k (Value.bool v)).length)).toArray, ?_, ?_, ?_⟩
  · rw [run_copy_row Tryd.prog w 22 22 ty 4 g m (n - m) dCap a sLen sCap _ _ (List.replicate k (Value.bool v)) Tryd.underlying22 hsz hh (by simpa using hk)
      (fun j u hj => by
        have hjk : j < k := by
          have := (List.getElem?_eq_some_iff.1 hj).1
          simpa using this
        rw [hsrc j hjk]
        rw [List.getElem?_replicate_of_lt hjk] at hj
        exact hj) (by simp [repV_length (show m ≤ n by omega)]; exact hmk) (by intro u hu; rw [List.eq_of_mem_replicate hu]; rfl)]
    simp [goInt]
  · rw [setRow_at hh]
    simp only [List.length_replicate]
    rw [repV_step]
  · intro B w0 hb hB
    exact below_setRow hb hB

set_option maxHeartbeats 1000000 in
set_option maxRecDepth 100000 in
theorem repeat_any (v : Bool) (A : Option Addr) (c n : Nat) (w : World) (hr : Rd w A 1 [Value.bool v]) (h1 : 1 ≤ n) (hn : n ≤ 64) :
    Calls Tryd.prog 29 #[.slice A 1 c, .int .i64 n] w (RetB (List.replicate n v) w) := by
  obtain ⟨i0, hi, hz0, hz1, hz2⟩ := info_parts Tryd.infoB
  have hsz : (Tryd.prog.info? 4).map (·.size) = some 1 := by rw [hi]; simp [hz1]
  obtain ⟨bl, o, rfl, hlt, _⟩ := hr.at_ (by omega)
  have HM := Lib.hid (fun W => mul_one n W hn)
  have HR := Lib.hid hr
  clear hr
  go_enter Tryd.func29, Tryd.ntmps29
  go_wp2_with fail
  refine (HM.out _).mono ?_
  rintro e w1 ⟨rfl, rfl⟩
  go_wp2_with (at_make; go_loud (refine wpList_make_full _ rfl _ _ 22 rfl w1.heap.size 4 i0 (.bool false) 1 Tryd.underlying22 hi hz0 hz1 _ _ _ _ n rfl rfl ?c1 ?c1' ?c2 ?c3 ?c4 ?_))
  case c1 => rfl
  case c1' => rfl
  case c2 => rw [hz2]; omega
  case c3 => unfold maxLen; omega
  case c4 => simp
  intro w2 hown1 hg1
  have hb2 : Below w1.heap.size w1 w2 := (Below.refl _ _).grown hg1 (Nat.le_refl _) (fun _ h => by cases h)
  have e : (madeCells #[Value.bool false] n).toList = repV v 0 n := by
    rw [toList_madeCells_one]; simp [repV]
  rw [e] at hown1
  obtain ⟨hh, _⟩ := own_cells hown1
  have hc2 : w2.cell? ⟨bl, o, none⟩ = some (.bool v) := (HR.out.below hb2).lit 0 _ rfl
  clear e hown1 hg1
  obtain ⟨w3, hcp, hh3, hbb3⟩ := copy_rep w2 w1.heap.size 0 1 n n 1 c ⟨bl, o, none⟩ v 3 hsz hh (by omega) (Nat.min_eq_left h1).symm (fun j hj => by
    obtain rfl : j = 0 := by omega
    simpa [Addr.add] using hc2)
  have hb3 := hbb3 _ _ hb2 (Nat.le_refl _)
  clear hh hb2 hc2 hbb3
  simp only [Nat.sub_zero, Nat.zero_add] at hcp hh3
  go_wp2_with (at_builtin; go_loud (refine Lib.wpList_copy_run _ rfl (.tmp 31) (.tmp 32) 22 22 rfl _ _ rfl rfl hcp ?_))
  clear hcp
  go_wp2_with fail
  go_loopw [8] (fun i wr => ∃ m : Nat, 1 ≤ m ∧ m ≤ n ∧ i = .int .i64 m ∧ wr.heap[w1.heap.size]? = some (.cells (repV v m n).toArray 4 (0, 0)) ∧ Below w1.heap.size w1 wr) (fun i _ => n - (intOf i).toNat)
  case atStart => exact ⟨1, Nat.le_refl _, h1, rfl, hh3, hb3⟩
  case round =>
    clear hh3 hb3
    obtain ⟨m, hm1, hmn, rfl, hh, hb⟩ := hrel
    by_cases hlt : m < n
    · obtain ⟨k, hk⟩ : ∃ k, k = Nat.min m (n - m) := ⟨_, rfl⟩
      have hk2 : k ≤ m ∧ k ≤ n - m ∧ 1 ≤ k := by rw [hk]; show min m (n - m) ≤ m ∧ min m (n - m) ≤ n - m ∧ 1 ≤ min m (n - m); omega
      obtain ⟨w4, hcp, hh4, hbb4⟩ := copy_rep wr.drew w1.heap.size m k n (n - m) m n ⟨w1.heap.size, 0, none⟩ v 3 hsz hh (by omega) hk (fun j hj => by
        have h5 : wr.cell? ⟨w1.heap.size, j, none⟩ = (repV v m n).toArray[j]? := Blk.cell (t := 4) hh j
        have h6 : (repV v m n).toArray[j]? = some (.bool v) := by rw [List.getElem?_toArray]; exact repV_get (by omega)
        have ha : (⟨w1.heap.size, 0, none⟩ : Addr).add j = ⟨w1.heap.size, j, none⟩ := by
          unfold Addr.add
          simp
          intro hj0; exact hj0.symm
        rw [ha]
        exact h5.trans h6)
      have hb4 := hbb4 _ _ hb.drew (Nat.le_refl _)
      clear hh hb hbb4 hk
      have hw : IntKind.i64.wrap ((m : Int) + (k : Int)) = ((m + k : Nat) : Int) := by rw [IntWalk.i64_in _ (by omega)]; simp
      obtain ⟨mk, hmk⟩ : ∃ mk, mk = m + k := ⟨_, rfl⟩
      have hmk2 : m < mk ∧ mk ≤ n := by omega
      rw [← hmk] at hw hh4
      clear hmk
      go_wp2_with fail
      go_region_law (first
        | (refine step_copy_run rfl (.tmp 41) (.tmp 44) 22 22 rfl (.slice (some ⟨w1.heap.size, m, none⟩) (n - m) (n - m)) (.slice (some ⟨w1.heap.size, 0, none⟩) m n) (by simp [Act.eval, Act.put] <;> omega) (by simp [Act.eval, Act.put]) hcp ?_)
        | fail)
      go_wp2_with fail
      go_roundw
      case rel => exact ⟨mk, by omega, by omega, by first | rfl | trivial, by first | rfl | exact hh4⟩
      case measure => simp [intOf]; omega
    · have hmn2 : m = n := by omega
      have HB := Lib.hid hb
      have HO := Lib.hid (own_of_blk (w := wr) (base := w1.heap.size) (e := 4) (cs := (repV v m n).toArray) hh (Nat.le_refl _) (by simp [repV_length hmn]; unfold maxLen; omega))
      clear hh hb
      go_wp2_with fail
      go_ret
      refine ⟨_, n, n, rfl, ?_, HB.out⟩
      have h := HO.out
      rw [show (repV v m n).toArray.size = n by simp [repV_length hmn]] at h
      rw [hmn2] at h
      have e : repV v n n = (List.replicate n v).map Value.bool := by simp [repV]
      rw [← e]
      exact h
end Go.Proofs.YtbgekiifffnalaaDoor
