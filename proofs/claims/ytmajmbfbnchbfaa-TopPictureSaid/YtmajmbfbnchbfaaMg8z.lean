/- Parts of the proof, in their order. -/
import Derived.Test.YtmajmbfbnchbfaaMg2z
import Derived.Test.YtmajmbfbnchbfaaMg3z
import Derived.Test.YtmajmbfbnchbfaaMg5z
import Derived.Test.YtmajmbfbnchbfaaFromz
/- draft.lifts, and the cells that draft.Weave asks for. -/
namespace Go.Proofs.Ytmajmbfbnchbfaa
open Go.RowKit

/-- The cloth of a draft, cell by cell. -/
def wovF (th tr : List Int) (tb : List Bool) (t x y : Nat) : Bool := tb.getD ((th.getD x 0).toNat * t + (tr.getD y 0).toNat) false
theorem bit_at {w : World} {b o n i : Nat} {l : List Bool} (h : Rd w (some ⟨b, o, none⟩) n (l.map Value.bool)) (hi : i < n) : w.cell? ⟨b, o + i, none⟩ = some (.bool (l.getD i false)) := by
  have hl : l.length = n := by simpa using h.len
  exact h.lit i _ (by rw [List.getElem?_map, List.getElem?_eq_getElem (by omega)]; simp [List.getD, show i < l.length by omega])
/-- The cells of a draft. -/
def dC (s t : Nat) (vh vr : Value) (bt ot ct : Nat) : Array Value := #[.int .i64 s, .int .i64 t, vh, vr, .int .i64 t, .int .i64 s, .slice (some ⟨bt, ot, none⟩) (s * t) ct]
set_option maxHeartbeats 1000000 in
set_option maxRecDepth 100000 in
theorem lifts_any (s t S T B bt ot ct : Nat) (vh vr : Value) (tb : List Bool) (w : World) (hs : s ≤ 64) (ht : t ≤ 64) (hS : S < s) (hT : T < t) (hB : Blk w B 27 (dC s t vh vr bt ot ct)) (hr : Rd w (some ⟨bt, ot, none⟩) (s * t) (tb.map Value.bool)) :
    Calls Try.prog 24 #[.pointer (some ⟨B, 0, none⟩), .int .i64 T, .int .i64 S] w fun e w' => e = .returned (.bool (tb.getD (S * t + T) false)) ∧ Below w.heap.size w w' := by
  have hF : S * t + T < s * t := Pl.cell_lt hT hS
  obtain ⟨i0, i1⟩ := mul_bound (p := (S : Int)) (q := (t : Int)) (by omega) (by omega) (by omega) (by omega)
  have hcell := bit_at hr hF
  generalize tb.getD (S * t + T) false = r at *
  have b1 := hB.cell 1
  have b6 := hB.cell 6
  simp only [dC, List.getElem?_toArray, List.getElem?_cons_zero, List.getElem?_cons_succ] at b1 b6
  clear hr hB
  go_enter Try.func24, Try.ntmps24
  go_wp2_with fail
  go_region
  go_wp2_with fail
  go_ret
  exact ⟨rfl, (Below.refl _ _).drew⟩
set_option maxHeartbeats 1000000 in
set_option maxRecDepth 100000 in
theorem wov_gives (s t B bt ot ct bh oh nh ch br or nr cr : Nat) (th tr : List Int) (tb : List Bool) (w : World) (hs : s ≤ 64) (ht : t ≤ 64) (hth : ∀ x ∈ th, 0 ≤ x ∧ x < s) (htr : ∀ x ∈ tr, 0 ≤ x ∧ x < t)
    (hB : Blk w B 27 (dC s t (.slice (some ⟨bh, oh, none⟩) nh ch) (.slice (some ⟨br, or, none⟩) nr cr) bt ot ct)) (hr : Rd w (some ⟨bt, ot, none⟩) (s * t) (tb.map Value.bool))
    (hh : Rd w (some ⟨bh, oh, none⟩) nh (th.map (Value.int .i64))) (hd : Rd w (some ⟨br, or, none⟩) nr (tr.map (Value.int .i64))) :
    Gives 23 #[.pointer (some ⟨B, 0, none⟩)] nh nr (wovF th tr tb t) w := by
  intro w' x y hbel hx hy
  have hB' := hB.keep hbel
  have hr' := hr.below hbel
  have k0 := int_cell (hh.below hbel) hx
  have k1 := int_cell (hd.below hbel) hy
  have l0 : th.length = nh := by simpa using hh.len
  have l1 : tr.length = nr := by simpa using hd.len
  obtain ⟨hx0, hx1⟩ := hth (th.getD x 0) (by rw [List.getD_eq_getElem?_getD, List.getElem?_eq_getElem (by omega)]; exact List.getElem_mem _)
  obtain ⟨hy0, hy1⟩ := htr (tr.getD y 0) (by rw [List.getD_eq_getElem?_getD, List.getElem?_eq_getElem (by omega)]; exact List.getElem_mem _)
  unfold wovF
  generalize th.getD x 0 = v at *
  generalize tr.getD y 0 = u at *
  obtain ⟨S, rfl⟩ : ∃ S : Nat, v = (S : Int) := ⟨v.toNat, by omega⟩
  obtain ⟨T, rfl⟩ : ∃ T : Nat, u = (T : Int) := ⟨u.toNat, by omega⟩
  have HC := Lib.hid (fun u (hu : Below w'.heap.size w' u) => lifts_any s t S T B bt ot ct _ _ tb u hs ht (by omega) (by omega) (hB'.keep hu) (hr'.below hu))
  simp only [Int.toNat_natCast]
  have b2 := hB'.cell 2
  have b3 := hB'.cell 3
  simp only [dC, List.getElem?_toArray, List.getElem?_cons_zero, List.getElem?_cons_succ] at b2 b3
  clear hB hr hh hd hB' hr' hbel hth htr l0 l1 hx0 hx1 hy0 hy1
  show Calls _ _ #[_, _, _] _ _
  go_enter Try.func23, Try.ntmps23
  go_wp2_with fail
  go_region_law (first
    | (go_simp
       go_at_call 24
       refine (HC.out _ (Below.refl _ _).drew).mono ?_
       rintro e w2 ⟨rfl, hb2⟩)
    | fail)
  all_goals
    go_wp2_with fail
    go_ret
    exact ⟨rfl, by simpa using (Below.refl _ _).drew.trans (hb2.mono (Nat.le_refl _))⟩
end Go.Proofs.Ytmajmbfbnchbfaa
/- reduce's search: a list of groups goes on with each number. -/
namespace Go.Proofs.Ytmajmbfbnchbfaa
open Go.RowKit

theorem below_drew1 (u : World) : Below u.heap.size u u.drew := (Below.refl _ _).drew
set_option maxHeartbeats 4000000 in
set_option maxRecDepth 100000 in
theorem from_step (a h sb m n k : Nat) (bs : List Bool) (bA oA c : Nat) (vl : Value) (l : List Int) (vb : Value) (cst : Int) (w u : World) (hm : m < a) (ha : a ≤ 64) (hk1 : 1 ≤ k) (hnm : n ≤ m) (hll : l.length = m)
    (H : SS w sb a h bs (some ⟨bA, oA, none⟩) c k vl m l vb cst u)
    (IH : ∀ (n' : Nat) vl' l' vb' cst' u', n' ≤ m + 1 → l'.length = m + 1 → SS w sb a h bs (some ⟨bA, oA, none⟩) c k vl' (m + 1) l' vb' cst' u' →
      Calls Try.prog 41 #[.pointer (some ⟨sb, 0, none⟩), .int .i64 n'] u' (FromR w sb a h bs (some ⟨bA, oA, none⟩) c k (m + 1) l')) :
    Calls Try.prog 41 #[.pointer (some ⟨sb, 0, none⟩), .int .i64 n] u (FromR w sb a h bs (some ⟨bA, oA, none⟩) c k m l) := by
  obtain ⟨i0, hi, hz0, hz1, hz2⟩ := info_parts Try.infoI
  obtain ⟨Al, cl, rfl⟩ := own_slice H.ol
  have HI := Lib.hid IH
  obtain ⟨N, hN, hN1, hNn, hNk⟩ : ∃ N : Nat, (if (k : Int) < (n : Int) + 1 then (k : Int) else (n : Int) + 1) = (N : Int) ∧ 1 ≤ N ∧ N ≤ n + 1 ∧ N ≤ k := by
    by_cases hkn : (k : Int) < (n : Int) + 1
    · exact ⟨k, if_pos hkn, hk1, by omega, Nat.le_refl _⟩
    · exact ⟨n + 1, by rw [if_neg hkn]; rfl, by omega, Nat.le_refl _, by omega⟩
  have B0 := H.blk
  have b0 := B0.cell 0
  have b1 := B0.cell 3
  have b4 := B0.cell 4
  simp only [srC, List.getElem?_toArray, List.getElem?_cons_zero, List.getElem?_cons_succ] at b0 b1 b4
  have hma : ((m : Int) == (a : Int)) = false := by rw [beq_eq_false_iff_ne]; omega
  have H0 := H.keep (below_drew1 u)
  clear IH
  go_enter Try.func41, Try.ntmps41
  go_wp2_with fail
  go_region
  go_wp2_with fail
  go_loopw [64] (fun i wr => ∃ (j cl : Nat) (Al : Option Addr) (vb : Value) (cst : Int), j ≤ N ∧ i = .int .i64 j ∧ (0 < j → vb ≠ .slice none 0 0) ∧ SS w sb a h bs (some ⟨bA, oA, none⟩) c k (.slice Al m cl) m l vb cst wr) (fun i _ => N - (intOf i).toNat)
  case atStart => exact ⟨0, cl, Al, vb, cst, Nat.zero_le _, rfl, fun h => absurd h (by omega), H0⟩
  case round =>
    clear b0 b1 b4 B0 H H0
    obtain ⟨j, cl2, Al2, vb2, cst2, hj, rfl, hvb, H⟩ := hrel
    by_cases hlt : j < N
    · have B0 := H.blk
      have b4 := B0.cell 4
      simp only [srC, List.getElem?_toArray, List.getElem?_cons_zero, List.getElem?_cons_succ] at b4
      have hsm : m + 1 ≤ 1048576 := by omega
      obtain ⟨n', hn', hnb⟩ : ∃ n' : Nat, (if (n : Int) < (j : Int) + 1 then (j : Int) + 1 else (n : Int)) = (n' : Int) ∧ n' ≤ m + 1 := by
        by_cases hkn : (n : Int) < (j : Int) + 1
        · exact ⟨j + 1, by rw [if_pos hkn]; rfl, by omega⟩
        · exact ⟨n, if_neg hkn, by omega⟩
      go_wp2_with (at_builtin; go_loud (refine wpList_app2 _ rfl (.tmp 71) (.tmp 73) 22 rfl w.heap.size 3 i0 (.int .i64 0) 8 Try.underlying22 hi hz0 hz1 hz2 rfl (by decide) (.slice Al2 m cl2) m _ rfl (H.ol.alloc _) wr.heap.size (.int .i64 j) rfl (new_cell wr _ _) rfl hsm (size_alloc_le H.bel.size _) ?_))
      intro g' cp' w9 hown9 hgr9 hli9
      have hblk9 := (B0.alloc _).grown hgr9 (own_blk_ne (H.ol.alloc _) (B0.alloc (.cells #[.int .i64 j] 3)) (by decide))
      have cc9 := hblk9.cell 4
      have hfz9 := hblk9.frozen 4
      simp only [srC, List.getElem?_toArray, List.getElem?_cons_zero, List.getElem?_cons_succ] at cc9
      have H9 := Lib.hid (H.app (.cells #[.int .i64 j] 3) hown9 hgr9 (hli9.imp id (fun e => by rw [size_alloc1]; exact e)) (by omega) (by omega) (by omega))
      clear H B0 b4 hown9 hgr9 hli9 hblk9
      go_wp2_with fail
      refine (HI.out n' _ _ _ _ _ hnb (by simp [hll]) H9.out).mono ?_
      rintro e w5 ⟨rfl, vl5, vb5, cst5, hne5, _, H5⟩
      obtain ⟨A5, c5, rfl⟩ := own_slice H5.ol
      obtain ⟨g5, rfl⟩ := own_addr H5.ol (by omega)
      have hcc := own_cap H5.ol
      have B5 := H5.blk
      have e4 := B5.cell 4
      have f4 := B5.frozen 4
      simp only [srC, List.getElem?_toArray, List.getElem?_cons_zero, List.getElem?_cons_succ] at e4
      have H6 := Lib.hid (SS.cut hll (H5.keep (below_drew1 w5)))
      clear H9 H5 B5 cc9 hfz9 hn' hnb HI
      go_wp2_with fail
      go_region
      go_wp2_with fail
      go_roundw
      case rel => exact ⟨j + 1, c5, some ⟨g5, 0, none⟩, vb5, cst5, by omega, by go_num, fun _ => hne5, H6.out⟩
      case measure => simp [intOf]; omega
    · obtain rfl : N = j := by omega
      go_wp2_with fail
      refine bodyPost_ret (v := .tuple #[]) (by simp [results, Try.results41, go_sem]) rfl ?_
      exact ⟨rfl, _, _, _, hvb (by omega), fun h => by
        obtain ⟨g, rfl⟩ := own_addr H.ol (by omega)
        exact ⟨_, _, rfl, own_cap H.ol⟩, H⟩
end Go.Proofs.Ytmajmbfbnchbfaa
