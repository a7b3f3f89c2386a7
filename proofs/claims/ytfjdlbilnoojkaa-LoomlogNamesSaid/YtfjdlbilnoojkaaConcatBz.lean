/- slices.Grow of nil and slices.Concat of rows of bools; loomlog.lifts. -/
import Derived.Test.YtfjdlbilnoojkaaMg3z
import Derived.Test.YtfjdlbilnoojkaaOwnUz
import Derived.Test.YtfjdlbilnoojkaaRunPz
import Derived.Lib.SliceRun
import Derived.Lib.AppendZerosOnto
import Derived.Lib.AppendZeros
import Derived.Laws.Append
namespace Go.Proofs.Ytfjdlbilnoojkaa
open Go.RowKit Go.Lib

theorem LRB.at_ {w : World} {A : Option Addr} {ls : List (List Bool)} (h : LRB w A ls) {i : Nat} {l : List Bool} (hi : ls[i]? = some l) :
    ∃ b o A' c, A = some ⟨b, o, none⟩ ∧ b < w.heap.size ∧ w.cell? ⟨b, o + i, none⟩ = some (.slice A' l.length c) ∧ Rd w A' l.length (l.map Value.bool) := by
  obtain ⟨xs, hx, hr⟩ := h
  obtain ⟨A', c, h1, h2⟩ := hr i l hi
  obtain ⟨b, o, hA, hb, hc⟩ := hx.at_ (by have := (List.getElem?_eq_some_iff.1 hi).1; omega)
  exact ⟨b, o, A', c, hA, hb, hc i _ h1, h2⟩
theorem LRB.lit {w : World} {b o : Nat} {ls : List (List Bool)} (h : LRB w (some ⟨b, o, none⟩) ls) {i : Nat} {l : List Bool} (hi : ls[i]? = some l) :
    ∃ A' c, w.cell? ⟨b, o + i, none⟩ = some (.slice A' l.length c) ∧ Rd w A' l.length (l.map Value.bool) := by
  obtain ⟨b', o', A', c, hA, hb, h1, h2⟩ := h.at_ hi
  injection hA with e
  injection e with e1 e2
  subst e1 e2
  exact ⟨A', c, h1, h2⟩
/-- The first k rows, one behind the other. -/
def flatTo (ls : List (List Bool)) (k : Nat) : List Bool := (ls.take k).flatten
theorem flat_succ {ls : List (List Bool)} {k : Nat} {l : List Bool} (h : ls[k]? = some l) : flatTo ls (k + 1) = flatTo ls k ++ l := by
  unfold flatTo
  rw [take_snoc h]; simp
theorem flat_all {ls : List (List Bool)} {k : Nat} (h : ls.length = k) : flatTo ls k = ls.flatten := by
  unfold flatTo
  rw [List.take_of_length_le (by omega)]
theorem flat_zero (ls : List (List Bool)) : flatTo ls 0 = [] := rfl
theorem flat_len {N : Nat} {ls : List (List Bool)} (h : RowsN N ls) : ls.flatten.length = ls.length * N := by
  induction ls with
  | nil => simp
  | cons a l ih =>
    rw [List.flatten_cons, List.length_append, h a (List.mem_cons_self ..), ih (fun r hr => h r (List.mem_cons_of_mem _ hr)), List.length_cons, Nat.succ_mul, Nat.add_comm]
theorem rows_take {N : Nat} {ls : List (List Bool)} (h : RowsN N ls) (k : Nat) : RowsN N (ls.take k) := fun r hr => h r (List.mem_of_mem_take hr)

set_option maxHeartbeats 1000000 in
set_option maxRecDepth 100000 in
theorem growB_any (n : Nat) (w : World) (h1 : 1 ≤ n) (h2 : n ≤ 1000000) :
    Calls Try.prog 62 #[.slice none 0 0, .int .i64 n] w fun e w' => ∃ g c, e = .returned (.slice (some ⟨g, 0, none⟩) 0 c) ∧ w'.ownsRow w.heap.size 4 1 (.slice (some ⟨g, 0, none⟩) 0 c) 0 [] ∧ Below w.heap.size w w' := by
  obtain ⟨i0, hi, hz0, hz1, hz2⟩ := info_parts Try.infoB
  have hold : (Builtin.firstCells i0.size 0 (.slice none 0 0)).run Try.prog w.drew = .ok ([] : List Value).toArray w.drew := run_firstCells_none w.drew i0.size 0 0 0
  have hrz : ∀ ty, (Builtin.append_ #[23, 3] ty #[.slice none 0 0, .int .i64 (n : Int)]).run Try.prog w =
      .ok (.slice (some ⟨w.heap.size, 0, none⟩) (0 + n) (grownCap w (0 + n) 0 4)) (w.drew.alloc (.cells (([] : List Value).toArray ++ Builtin.zeroCells (Value.bool false).cells n ++ Builtin.zeroCells (Value.bool false).cells (grownCap w (0 + n) 0 4 - (0 + n))) 4)) := fun ty =>
    Lib.run_append_grow_zeros w 23 3 ty 4 i0 (.bool false) .i64 .i64 Try.underlying23 Try.underlying3 hi hz0 none 0 0 [] hold n (by omega) (by omega) (by omega) (by omega) (by rw [hz2]; omega)
      (by rw [hz2]; exact growslice_fits (by omega) (by omega))
  have hGn : 0 + n ≤ grownCap w (0 + n) 0 4 := grownCap_ge w _ _ _
  have hG63 := grownCap_le_maxLen w (0 + n) 0 4 (by unfold maxLen; omega)
  generalize grownCap w (0 + n) 0 4 = G at *
  rw [Nat.zero_add] at hrz hGn
  have hG2 : G ≤ 9223372036854775807 := by unfold maxLen at hG63; omega
  obtain ⟨Z, hZ⟩ : ∃ Z, Z = ([] : List Value).toArray ++ Builtin.zeroCells (Value.bool false).cells n ++ Builtin.zeroCells (Value.bool false).cells (G - n) := ⟨_, rfl⟩
  have hZs : Z.size = G := by rw [hZ]; simp [size_zeroCells, Value.cells]; omega
  rw [← hZ] at hrz
  have HZ := Lib.hid hZs
  clear hold hZ hZs
  go_enter Try.func62, Try.ntmps62
  go_wp2_with (at_builtin; refine Lib.wpList_append_run _ rfl _ _ _ _ rfl _ _ rfl rfl _ _ (hrz _) ?_)
  go_ret
  refine ⟨_, G, rfl, ⟨by simp, .inr ⟨w.heap.size, G, Z, rfl, Nat.le_refl _, Blk.new _ _ _, Nat.zero_le _, hG63, by rw [HZ.out]; simp, by simp⟩⟩, (Below.refl _ _).drew.alloc (Nat.le_refl _) _⟩
theorem growB_zero (w : World) :
    Calls Try.prog 62 #[.slice none 0 0, .int .i64 0] w fun e w' => e = .returned (.slice none 0 0) ∧ w' = w := by
  go_enter Try.func62, Try.ntmps62
  go_wp2_with fail
  go_ret
  exact ⟨rfl, rfl⟩
theorem growB_all (n : Nat) (w : World) (h2 : n ≤ 1000000) :
    Calls Try.prog 62 #[.slice none 0 0, .int .i64 n] w fun e w' => ∃ A c, e = .returned (.slice A 0 c) ∧ w'.ownsRow w.heap.size 4 1 (.slice A 0 c) 0 [] ∧ Below w.heap.size w w' := by
  rcases Nat.eq_zero_or_pos n with rfl | hp
  · refine (growB_zero w).mono ?_
    rintro e w' ⟨rfl, rfl⟩
    exact ⟨none, 0, rfl, World.ownsRow_nil _ _ _ _, Below.refl _ _⟩
  · refine (growB_any n w hp h2).mono ?_
    rintro e w' ⟨g, c, rfl, h, hb⟩
    exact ⟨_, c, rfl, h, hb⟩

/-- Bits in new memory. -/
def BitsRet (bs : List Bool) (w : World) (e : Ending) (w' : World) : Prop :=
  ∃ A n c, e = .returned (.slice A n c) ∧ w'.ownsRow w.heap.size 4 1 (.slice A n c) n (bs.map Value.bool) ∧ Below w.heap.size w w'
set_option maxHeartbeats 4000000 in
set_option maxRecDepth 100000 in
theorem concatB_pos (N n : Nat) (ls : List (List Bool)) (b o c : Nat) (w : World) (hn : ls.length = n) (hr : LRB w (some ⟨b, o, none⟩) ls) (hN : RowsN N ls) (hN2 : N ≤ 64) (hn2 : n ≤ 1000) :
    Calls Try.prog 49 #[.slice (some ⟨b, o, none⟩) n c] w (BitsRet ls.flatten w) := by
  obtain ⟨i0, hi, hz0, hz1, hz2⟩ := info_parts Try.infoB
  have HN := Lib.hid hn
  have hrow : ∀ k, k < n → ∃ l, ls[k]? = some l ∧ l.length = N := fun k hk => ⟨ls[k]'(by omega), List.getElem?_eq_getElem (by omega), hN _ (List.getElem_mem _)⟩
  have HROW := Lib.hid hrow
  clear hn hrow
  go_enter Try.func49, Try.ntmps49
  go_wp2_with fail
  go_loopw [11, 3] (fun i s wr => ∃ k m : Nat, k ≤ n ∧ i = .int .i64 k ∧ s = .int .i64 m ∧ m ≤ 64 * k ∧ wr = w) (fun i _ _ => n - (intOf i).toNat)
  case atStart => exact ⟨0, 0, Nat.zero_le _, rfl, rfl, Nat.le_refl _, rfl⟩
  case round =>
    obtain ⟨k, m, hk, rfl, rfl, hm, rfl⟩ := hrel
    by_cases hlt : k < n
    · obtain ⟨l, hlk, hll⟩ := HROW.out k hlt
      obtain ⟨A', c', d0, hrl⟩ := hr.lit hlk
      rw [hll] at d0
      clear hrl
      have HLK := Lib.hid hlk
      have HLL := Lib.hid hll
      clear hlk hll
      go_wp2_with fail
      go_roundw
      case rel => exact ⟨k + 1, m + N, by omega, by go_num, by go_num, by omega, by trivial⟩
      case measure => simp [intOf]; omega
    · obtain rfl : k = n := by omega
      have hm2 : m ≤ 64000 := by omega
      have HG := Lib.hid (growB_all m wr (by omega))
      go_wp2_with fail
      refine HG.out.mono ?_
      rintro e w2 ⟨B, cB, rfl, hown, hb2⟩
      have hwr : wr.heap.size ≤ w2.heap.size := hb2.size
      have hr2 := hr.below hb2
      go_wp2_with fail
      go_loopw [27, 6] (fun i s w3 => ∃ (j m' c' : Nat) (B' : Option Addr), j ≤ k ∧ i = .int .i64 j ∧ s = .slice B' m' c' ∧ m' = j * N ∧ w3.ownsRow wr.heap.size 4 1 (.slice B' m' c') m' ((flatTo ls j).map Value.bool) ∧ Below wr.heap.size wr w3) (fun i _ _ => k - (intOf i).toNat)
      case atStart => exact ⟨0, 0, cB, B, Nat.zero_le _, rfl, rfl, by simp, by rw [flat_zero]; simpa using hown, hb2⟩
      case round =>
        clear hown hb2 hr2
        obtain ⟨j, m', c', B', hj, rfl, rfl, hm', hown, hb3⟩ := hrel
        have HM := Lib.hid hm'
        have hmb : m' ≤ 64000 := by rw [hm']; exact Nat.le_trans (Nat.mul_le_mul (show j ≤ 1000 by omega) hN2) (by omega)
        clear hm'
        by_cases hjl : j < k
        · obtain ⟨l, hlk, hll⟩ := HROW.out j hjl
          obtain ⟨A', c'', d0, hrl⟩ := (hr.below hb3).lit hlk
          have HLK := Lib.hid hlk
          rw [hll] at d0 hrl
          have HLL := Lib.hid hll
          clear hlk hll
          have hsz := hb3.size
          go_wp2_with (at_builtin; go_loud (refine wpList_app_all _ rfl (.tmp 31) (.tmp 32) 23 rfl _ 4 i0 (.bool false) 1 Try.underlying23 hi hz0 hz1 hz2 rfl (by decide) (.slice B' m' c') m' _ rfl hown A' N c'' _ rfl hrl (oneCell_bools _) (by omega) hsz ?_))
          intro B2 c2 w4 hown4 hg4
          go_wp2_with fail
          go_roundw
          case rel =>
            refine ⟨j + 1, m' + N, c2, B2, by omega, by go_num, rfl, by rw [HM.out, Nat.succ_mul], ?_, hb3.grown hg4 hsz (fun g e => (hown.lt g e).1)⟩
            rw [flat_succ HLK.out, List.map_append]
            exact hown4
          case measure => simp [intOf]; omega
        · obtain rfl : j = k := by omega
          go_wp2_with fail
          go_ret
          refine ⟨B', m', c', rfl, ?_, hb3⟩
          rw [← flat_all HN.out]
          exact hown
set_option maxHeartbeats 4000000 in
set_option maxRecDepth 100000 in
theorem concatB_nil (A : Option Addr) (c : Nat) (w : World) :
    Calls Try.prog 49 #[.slice A 0 c] w (BitsRet [] w) := by
  have HG := Lib.hid (growB_zero w)
  go_enter Try.func49, Try.ntmps49
  go_wp2_with fail
  go_loopw [11, 3] (fun i s wr => i = .int .i64 0 ∧ s = .int .i64 0 ∧ wr = w) (fun i _ _ => 0)
  case atStart => exact ⟨rfl, rfl, rfl⟩
  case round =>
    obtain ⟨rfl, rfl, rfl⟩ := hrel
    go_wp2_with fail
    refine HG.out.mono ?_
    rintro e w2 ⟨rfl, rfl⟩
    go_wp2_with fail
    go_loopw [27, 6] (fun i s w3 => i = .int .i64 0 ∧ s = .slice none 0 0 ∧ w3 = w2) (fun i _ _ => 0)
    case atStart => exact ⟨rfl, rfl, rfl⟩
    case round =>
      obtain ⟨rfl, rfl, rfl⟩ := hrel
      go_wp2_with fail
      go_ret
      exact ⟨none, 0, 0, rfl, World.ownsRow_nil _ _ _ _, Below.refl _ _⟩
theorem concatB_any (N n : Nat) (ls : List (List Bool)) (A : Option Addr) (c : Nat) (w : World) (hn : ls.length = n) (hr : LRB w A ls) (hN : RowsN N ls) (hN2 : N ≤ 64) (hn2 : n ≤ 1000) :
    Calls Try.prog 49 #[.slice A n c] w (BitsRet ls.flatten w) := by
  rcases Nat.eq_zero_or_pos n with rfl | hp
  · obtain rfl := List.eq_nil_of_length_eq_zero hn
    exact concatB_nil A c w
  · obtain ⟨b, o, _, _, rfl, _⟩ := hr.at_ (i := 0) (l := ls[0]'(by omega)) (List.getElem?_eq_getElem (by omega))
    exact concatB_pos N n ls b o c w hn hr hN hN2 hn2
/-- The grid of some picks. -/
def liftsG (N : Int) (p : List (List Bool)) : Gd := ⟨N, p.length, p.flatten⟩
set_option maxHeartbeats 1000000 in
theorem lifts_any (Z : Int) (N n : Nat) (ls : List (List Bool)) (A : Option Addr) (c : Nat) (w : World) (hn : ls.length = n) (hr : LRB w A ls) (hN : RowsN N ls) (hN2 : N ≤ 64) (hn2 : n ≤ 1000) :
    Calls Try.prog 37 #[.int .i64 Z, .slice A n c] w fun e w' => ∃ A' m c', e = .returned (.agg #[.int .i64 Z, .int .i64 n, .slice A' m c']) ∧ w'.ownsRow w.heap.size 4 1 (.slice A' m c') m (ls.flatten.map Value.bool) ∧ Below w.heap.size w w' := by
  have HC := Lib.hid (fun u (hb : Below w.heap.size w u) => concatB_any N n ls A c u hn (hr.below hb) hN hN2 hn2)
  go_enter Try.func37, Try.ntmps37
  go_wp2_with fail
  refine (HC.out _ ((Below.refl w.heap.size w).alloc (Nat.le_refl _) _)).mono ?_
  rintro e w2 ⟨B, m, c', rfl, hown, hb2⟩
  have hown' := own_base hown (show w.heap.size ≤ _ by simp)
  clear hown
  have S0 := ((St.start w).box #[.int .i64 0, .int .i64 0, .slice none 0 0] 25).keep hb2
  simp only [List.nil_append] at S0
  obtain ⟨f0, f1, f2⟩ := (S0.blk 0 rfl).frozen3
  obtain ⟨g0, g1, g2⟩ := (S0.blk 0 rfl).cell3
  obtain ⟨q0, q1, q2⟩ := ((S0.blk 0 rfl).set3 (.int .i64 Z) (.int .i64 n) (.slice B m c')).cell3
  go_wp2_with fail
  refine bodyPost_ret (v := .agg #[.int .i64 Z, .int .i64 n, .slice B m c']) (by simp [results, Try.results37, go_sem, q0, q1, q2]) rfl ?_
  exact ⟨B, m, c', rfl, own_set3 hown' (S0.blk 0 rfl) (by decide) _ _ _, below_set3 S0.below (Nat.le_refl _) _ _ _⟩
end Go.Proofs.Ytfjdlbilnoojkaa
