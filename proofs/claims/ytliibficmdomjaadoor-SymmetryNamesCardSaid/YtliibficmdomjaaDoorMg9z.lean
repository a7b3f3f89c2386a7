/- Parts of the proof, in their order. -/
import Derived.Test.YtliibficmdomjaaDoorMg3z
import Derived.Test.YtliibficmdomjaaDoorProg
import Derived.KernelRfl
import Derived.RegionTactic
import Derived.Handy
import Derived.Outline
import Derived.Deep.Draws
import Derived.Test.YtliibficmdomjaaDoorSym1z
/- slices.Equal on slices of bools: whether they read the same. -/
namespace Go.Proofs.YtliibficmdomjaaDoor
open Go.RowKit

theorem ret_e {a b : Bool} (h : a = b) : Ending.returned (.bool a) = Ending.returned (.bool b) := by rw [h]
theorem bool_read {w : World} {bl o i n : Nat} {l : List Bool} (hl : l.length = n) (hi : i < n)
    (hc : ∀ j u, (l.map Value.bool)[j]? = some u → w.cell? ⟨bl, o + j, none⟩ = some u) : w.cell? ⟨bl, o + i, none⟩ = some (.bool (l.getD i false)) := by
  refine hc i _ ?_
  rw [List.getElem?_map, List.getElem?_eq_getElem (by omega)]
  simp [List.getD, show i < l.length by omega]

set_option maxHeartbeats 1600000 in
theorem eqs_any (l l2 : List Bool) (A A2 : Option Addr) (n c n2 c2 : Nat) (w : World) (hr : Rd w A n (l.map Value.bool)) (hr2 : Rd w A2 n2 (l2.map Value.bool)) (hn : n ≤ 1048576) :
    Calls Tryd.prog 65 #[.slice A n c, .slice A2 n2 c2] w fun e w' => e = .returned (.bool (decide (l = l2))) ∧ ∃ m, w' = w.drewN m := by
  have hl : l.length = n := by simpa using hr.len
  have hl2 : l2.length = n2 := by simpa using hr2.len
  by_cases hd : n = n2
  · subst hd
    have k3 : ((n : Int) != (n : Int)) = false := by simp
    have HL := Lib.hid hl
    have HL2 := Lib.hid hl2
    clear hl hl2
    go_enter Tryd.func65, Tryd.ntmps65
    go_wp2_with fail
    go_loopw [13] (fun i wr => ∃ k m : Nat, k ≤ n ∧ i = .int .i64 k ∧ (∀ j, j < k → l[j]? = l2[j]?) ∧ wr = w.drewN m) (fun i _ => n - (intOf i).toNat)
    case atStart => exact ⟨0, 0, Nat.zero_le _, rfl, fun _ h => absurd h (by omega), rfl⟩
    case round =>
      obtain ⟨k, m, hk, rfl, heq, rfl⟩ := hrel
      have HE := Lib.hid heq
      clear heq
      by_cases hlt : k < n
      · have hkl : k < l.length := by rw [HL.out]; exact hlt
        have hkl2 : k < l2.length := by rw [HL2.out]; exact hlt
        obtain ⟨ba, oa, hA1, hbl, hca⟩ := hr.at_ (by omega)
        obtain ⟨bb, ob, hA2, hbl2, hcb⟩ := hr2.at_ (by omega)
        subst hA1 hA2
        have hcella := bool_read HL.out hlt hca
        have hcellb := bool_read HL2.out hlt hcb
        have hpq : Hid (l.getD k false = l2.getD k false → l[k]? = l2[k]?) := fun h => by
          simp [List.getD, hkl, hkl2] at h
          simp [hkl, hkl2, h]
        have hne : Hid (l.getD k false ≠ l2.getD k false → l ≠ l2) := fun h e => h (by rw [e])
        generalize l.getD k false = p at *
        generalize l2.getD k false = q at *
        clear hca hcb hkl hkl2 hbl hbl2
        have hRR : Hid (p = q → ∀ j, j < k + 1 → l[j]? = l2[j]?) := fun e j hj => by
          by_cases hjk : j = k
          · subst hjk; exact hpq.out e
          · exact HE.out j (by omega)
        rcases p <;> rcases q
        all_goals
          go_wp2_with fail
          go_region
        all_goals
          go_wp2_with fail
          first
            | (go_ret
               exact ⟨ret_e (decide_eq_false (hne.out (by simp))).symm, m + 1, rfl⟩)
            | (go_roundw
               case rel => exact ⟨k + 1, m + 1, by omega, by go_num, hRR.out (by simp), rfl⟩
               case measure => simp [intOf]; omega)
      · have hkk : k = n := by omega
        have HS : Hid (l = l2) := List.ext_getElem? fun j => by
          by_cases hj : j < k
          · exact HE.out j hj
          · have h1 := HL.out
            have h2 := HL2.out
            rw [List.getElem?_eq_none (by omega), List.getElem?_eq_none (by omega)]
        go_wp2_with fail
        go_ret
        exact ⟨ret_e (decide_eq_true HS.out).symm, m, rfl⟩
  · have HN : Hid (l ≠ l2) := fun e => hd (by rw [← hl, ← hl2, e])
    have k3 : ((n : Int) != (n2 : Int)) = true := by simp; omega
    have k4 : (n != n2) = true := by simp; omega
    clear hl hl2 hr hr2
    go_enter Tryd.func65, Tryd.ntmps65
    go_wp2_with fail
    go_ret
    exact ⟨ret_e (decide_eq_false HN.out).symm, 0, rfl⟩
end Go.Proofs.YtliibficmdomjaaDoor
/- symmetry.check of some grids. -/
namespace Go.Proofs.YtliibficmdomjaaDoor
open Go.RowKit

theorem St.of {w w' : World} (h : Below w.heap.size w w') : St w [] w' := ⟨h, by simp⟩
/-- What check answers. -/
def CheckR (k : Nat) (Wf Hf : Nat → Int) (nf : Nat → Nat) (r : Int) : Prop :=
  (∃ i, i < k ∧ (∀ j, j < i → chk (Wf j) (Hf j) (nf j) = 0) ∧ chk (Wf i) (Hf i) (nf i) ≠ 0 ∧ r = chk (Wf i) (Hf i) (nf i)) ∨
  ((∀ j, j < k → chk (Wf j) (Hf j) (nf j) = 0) ∧ (∃ j, j < k ∧ (16 < Wf j ∨ 16 < Hf j)) ∧ r = 4) ∨
  ((∀ j, j < k → chk (Wf j) (Hf j) (nf j) = 0) ∧ (∀ j, j < k → ¬ (16 < Wf j ∨ 16 < Hf j)) ∧ r = 0)
def CheckRet (k : Nat) (Wf Hf : Nat → Int) (nf : Nat → Nat) (w : World) (e : Ending) (w' : World) : Prop := ∃ r, CheckR k Wf Hf nf r ∧ e = .returned (.int .i64 r) ∧ Below w.heap.size w w'

set_option maxHeartbeats 2000000 in
theorem scheck_any (k bg : Nat) (Wf Hf : Nat → Int) (Af : Nat → Option Addr) (nf cf : Nat → Nat) (w : World) (hk : k ≤ 64)
    (hcell : ∀ i, i < k → ∀ wz, Below w.heap.size w wz → wz.cell? ⟨bg, i * 3, none⟩ = some (.int .i64 (Wf i)) ∧ wz.cell? ⟨bg, i * 3 + 1, none⟩ = some (.int .i64 (Hf i)) ∧ wz.cell? ⟨bg, i * 3 + 2, none⟩ = some (.slice (Af i) (nf i) (cf i))) :
    Calls Tryd.prog 32 #[.slice (some ⟨bg, 0, none⟩) k k] w (CheckRet k Wf Hf nf w) := by
  have HC := Lib.hid hcell
  clear hcell
  go_enter Tryd.func32, Tryd.ntmps32
  go_wp2_with fail
  go_loopw [10] (fun i wr => ∃ x : Nat, x ≤ k ∧ i = .int .i64 x ∧ (∀ j, j < x → chk (Wf j) (Hf j) (nf j) = 0) ∧ Below w.heap.size w wr) (fun i _ => k - (intOf i).toNat)
  case atStart => exact ⟨0, Nat.zero_le _, rfl, fun _ h => absurd h (by omega), Below.refl _ _⟩
  case round =>
    obtain ⟨x, hx, rfl, hall, hbel⟩ := hrel
    have HA := Lib.hid hall
    clear hall
    by_cases hlt : x < k
    · obtain ⟨g0, g1, g2⟩ := HC.out x hlt wr hbel
      by_cases h0 : chk (Wf x) (Hf x) (nf x) = 0
      · have hcb : (chk (Wf x) (Hf x) (nf x) != 0) = false := by simpa using h0
        have H0 := Lib.hid h0
        have S1 := (St.of hbel).box #[.int .i64 (Wf x), .int .i64 (Hf x), .slice (Af x) (nf x) (cf x)] 24
        obtain ⟨c0, c1, c2⟩ := (S1.blk 0 rfl).cell3
        clear h0
        go_wp2_with fail
        refine (check_any _ _ _ _ _ _).mono ?_
        rintro e w1 ⟨rfl, hb1⟩
        have S2 := S1.keep hb1
        clear c0 c1 c2 g0 g1 g2
        go_wp2_with fail
        go_roundw
        case rel =>
          refine ⟨x + 1, by omega, by go_num, fun j hj => ?_, S2.below⟩
          rcases Nat.lt_or_ge j x with h | h
          · exact HA.out j h
          · obtain rfl : j = x := by omega
            exact H0.out
        case measure => simp [intOf]; omega
      · have hcb : (chk (Wf x) (Hf x) (nf x) != 0) = true := by simpa using h0
        have H0 := Lib.hid h0
        have S1 := (St.of hbel).box #[.int .i64 (Wf x), .int .i64 (Hf x), .slice (Af x) (nf x) (cf x)] 24
        obtain ⟨c0, c1, c2⟩ := (S1.blk 0 rfl).cell3
        clear h0
        go_wp2_with fail
        refine (check_any _ _ _ _ _ _).mono ?_
        rintro e w1 ⟨rfl, hb1⟩
        have S2 := S1.keep hb1
        clear c0 c1 c2 g0 g1 g2
        go_wp2_with fail
        go_ret
        exact ⟨_, .inl ⟨x, hlt, HA.out, H0.out, rfl⟩, rfl, S2.below⟩
    · have hxk : x = k := by omega
      have HK : Hid (∀ j, j < k → chk (Wf j) (Hf j) (nf j) = 0) := Lib.hid fun j hj => HA.out j (by omega)
      clear HA
      go_wp2_with fail
      go_loopw [22] (fun i wr => ∃ x : Nat, x ≤ k ∧ i = .int .i64 x ∧ (∀ j, j < x → ¬ (16 < Wf j ∨ 16 < Hf j)) ∧ Below w.heap.size w wr) (fun i _ => k - (intOf i).toNat)
      case atStart => exact ⟨0, Nat.zero_le _, rfl, fun _ h => absurd h (by omega), hbel⟩
      case round =>
        clear hbel hx hxk hlt
        obtain ⟨x, hx, rfl, hall, hbel⟩ := hrel
        have HA := Lib.hid hall
        clear hall
        by_cases hlt : x < k
        · obtain ⟨g0, g1, g2⟩ := HC.out x hlt wr hbel
          have S1 := (St.of hbel).box #[.int .i64 (Wf x), .int .i64 (Hf x), .slice (Af x) (nf x) (cf x)] 24
          obtain ⟨c0, c1, c2⟩ := (S1.blk 0 rfl).cell3
          by_cases hb : 16 < Wf x ∨ 16 < Hf x
          · have HB := Lib.hid hb
            go_wp2_with fail
            all_goals
              go_ret
              exact ⟨_, .inr (.inl ⟨HK.out, ⟨x, hlt, HB.out⟩, rfl⟩), rfl, S1.below⟩
          · have HB := Lib.hid hb
            have hb1 : Wf x ≤ 16 := by omega
            have hb2 : Hf x ≤ 16 := by omega
            clear hb
            go_wp2_with fail
            all_goals
              go_roundw
              case rel =>
                refine ⟨x + 1, by omega, by go_num, fun j hj => ?_, S1.below⟩
                rcases Nat.lt_or_ge j x with h | h
                · exact HA.out j h
                · obtain rfl : j = x := by omega
                  exact HB.out
              case measure => simp [intOf]; omega
        · have hxk : x = k := by omega
          go_wp2_with fail
          go_ret
          exact ⟨_, .inr (.inr ⟨HK.out, fun j hj => HA.out j (by omega), rfl⟩), rfl, hbel⟩
/-- One grid. -/
theorem check1_any (W H : Int) (A : Option Addr) (n c bg : Nat) (t : TypeId) (w : World) (hb : Blk w bg t #[.int .i64 W, .int .i64 H, .slice A n c]) :
    Calls Tryd.prog 32 #[.slice (some ⟨bg, 0, none⟩) 1 1] w fun e w' => e = .returned (.int .i64 (startN W H n)) ∧ Below w.heap.size w w' := by
  refine (scheck_any 1 bg (fun _ => W) (fun _ => H) (fun _ => A) (fun _ => n) (fun _ => c) w (by omega) (fun i hi wz hz => ?_)).mono ?_
  · obtain rfl : i = 0 := by omega
    exact (hb.keep hz).cell3
  · rintro e w' ⟨r, hr, rfl, hbel⟩
    refine ⟨?_, hbel⟩
    rcases hr with ⟨i, _, _, h1, h2⟩ | ⟨h1, ⟨j, _, h2⟩, h3⟩ | ⟨h1, h2, h3⟩
    · rw [h2, startN_bad h1]
    · rw [h3, startN_big (h1 0 (by omega)) h2]
    · rw [h3, startN_ok (h1 0 (by omega)) (h2 0 (by omega))]
end Go.Proofs.YtliibficmdomjaaDoor
