/- slices.Backward of strings: its iterator's contract (a range over a function). -/
import Derived.RangeFuncNested
import Derived.RangeFuncBound
import Derived.RangeFuncCalls
import Derived.RangeFuncLeaves
import Derived.Shelf.Abstract
import Derived.Shelf.RegionOpen
import Derived.WalkKit
import Derived.OwnWalkIn
import Derived.TacticsInMore
import Derived.LoopNIn
import Derived.LoopIn
import Derived.Test.YtpfonniepinjnaaDoorStrC
import Derived.Test.YtpfonniepinjnaaDoorRangeF
namespace Go.Proofs.YtpfonniepinjnaaDoor
open Go.RowKit Go.Shelf

attribute [local go_sem] Oper.semAt_some

/-- The line that comes in round k. -/
def lineAt (R : List (List UInt8)) (k : Nat) : List UInt8 := R.reverse.getD k []
theorem wrap_m1 (x : Int) (h : -1 ≤ x) (h2 : x < 9223372036854775808) : IntKind.i64.wrap x = x := by
  by_cases h0 : 0 ≤ x
  · exact wrap_small x h0 h2
  · obtain rfl : x = -1 := by omega
    rfl
set_option maxRecDepth 100000 in
set_option maxHeartbeats 2000000 in
/-- The closure of slices.Backward, for every body that keeps the slice's box and its block. -/
theorem back1_in (F : Fence) (n : Nat) (hF : F.fn 41) (hro : F.round = none) (hn : 1 ≤ n) (l Bs b : Nat) (R : List (List UInt8)) (hlen : R.length ≤ 4194304) (J Jx : List (Fin R.length) → World → Prop)
    (hY : ∀ pre x W, J pre W → pre.length < R.length → YieldAt F (n - 1) Tryd.prog l #[.int .i64 ((R.length : Int) - 1 - (x.1 : Int)), str (lineAt R x.1)] W fun e W' =>
      (e = .returned (.bool true) ∧ J (pre ++ [x]) W' ∧ KB [Bs, b] W W') ∨ (e = .returned (.bool false) ∧ Jx (pre ++ [x]) W'))
    (W : World) (hBs : Blk W Bs 50 #[.slice (some ⟨b, 0, none⟩) R.length R.length]) (hc : Blk W b 9 (R.map str).toArray) (h0 : J [] W) :
    CallsIn F n Tryd.prog 41 #[.func (.yield l) #[] #[], .pointer (some ⟨Bs, 0, none⟩)] W fun e W' => (∃ v, e = .returned v) ∧
      ((∃ ys, ys = firstF R.length R.length ∧ J ys W') ∨ (∃ pre, (∃ k, k ≤ R.length ∧ pre = firstF R.length k) ∧ Jx pre W')) := by
  have hbs0 : W.cell? ⟨Bs, 0, none⟩ = some (.slice (some ⟨b, 0, none⟩) R.length R.length) := hBs.cell 0
  have hq0 : IntKind.i64.wrap ((R.length : Int) - 1) = (R.length : Int) - 1 := wrap_m1 _ (by omega) (by omega)
  refine callsIn_of_wp Tryd.func41 rfl hF ?_ hro
  simp only [Tryd.ntmps41, List.size_toArray, List.length_cons, List.length_nil, Nat.reduceAdd, Nat.reduceSub, Array.replicate_succ, Array.replicate_zero, List.push_toArray, List.append_toArray, List.nil_append, List.cons_append]
  gi_wp2
  gi_loopw [3] (fun i wr => ∃ k : Nat, k ≤ R.length ∧ i = .int .i64 ((R.length : Int) - 1 - (k : Int)) ∧ J (firstF R.length k) wr ∧ KB [Bs, b] W wr)
    (fun i _ => (intOf i + 1).toNat)
  case atStart => exact ⟨0, Nat.zero_le _, by simp, h0, KB.refl _ _⟩
  case round =>
    obtain ⟨k, hk, rfl, hJs, hnx⟩ := hrel
    have hcb : wr.cell? ⟨Bs, 0, none⟩ = some (.slice (some ⟨b, 0, none⟩) R.length R.length) := (hnx.blk (by simp) hBs).cell 0
    by_cases hlt : k < R.length
    · obtain ⟨fn, tmps, assign, body, hy, hR⟩ := hY _ ⟨k, hlt⟩ wr hJs (by rw [firstF_length (by omega)]; exact hlt)
      dsimp only at hy
      have hcx : wr.cell? ⟨b, R.length - 1 - k, none⟩ = some (str (lineAt R k)) := by
        rw [(hnx.blk (by simp) hc).cell]
        unfold lineAt
        rw [List.getD_eq_getElem?_getD, List.getElem?_reverse hlt, List.getElem?_toArray, List.getElem?_map, List.getElem?_eq_getElem (by omega)]
        rfl
      have hm : (R.length : Int) - 1 - (k : Int) = ((R.length - 1 - k : Nat) : Int) := by omega
      have hm1 : (0 : Int) ≤ ((R.length - 1 - k : Nat) : Int) := by omega
      have hm2 : ((R.length - 1 - k : Nat) : Int) < (R.length : Int) := by omega
      have hm3 : R.length - 1 - k < R.length := by omega
      have hm4 : IntKind.i64.wrap (((R.length - 1 - k : Nat) : Int) - 1) = ((R.length - 1 - k : Nat) : Int) - 1 := wrap_m1 _ (by omega) (by omega)
      have hm5 : (((R.length - 1 - k : Nat) : Int) - 1 + 1).toNat < (((R.length - 1 - k : Nat) : Int) + 1).toNat := by omega
      have hm6 : ((R.length - 1 - k : Nat) : Int) - 1 = (R.length : Int) - 1 - ((k + 1 : Nat) : Int) := by omega
      rw [hm] at hy ⊢
      generalize R.length - 1 - k = m at *
      generalize lineAt R k = row at *
      gi_wp2
      refine hR.mono ?_
      rintro e W3 (⟨rfl, hJ3, hk3⟩ | ⟨rfl, hJx3⟩)
      · gi_wp2
        go_roundw
        case rel => exact ⟨k + 1, by omega, by push_cast; rfl, by rw [firstF_succ hlt]; exact hJ3, hnx.trans hk3⟩
        case measure => simp [intOf]; omega
      · gi_wp2
        refine bodyPost_ret (results_none rfl _ _ _) rfl ?_
        exact ⟨⟨_, rfl⟩, .inr ⟨_, ⟨k + 1, by omega, (firstF_succ hlt).symm⟩, hJx3⟩⟩
    · obtain rfl : k = R.length := by omega
      have hm : (R.length : Int) - 1 - (R.length : Int) = -1 := by omega
      rw [hm]
      gi_wp2
      go_end0
      exact ⟨⟨_, rfl⟩, .inl ⟨_, rfl, hJs⟩⟩

/-- slices.Backward(s): the slice is boxed; the function value captures the box. -/
theorem backward_any (A : Option Addr) (n c : Nat) (w : World) :
    Calls Tryd.prog 25 #[.slice A n c] w fun e w' => e = .returned (.func (.func 41) #[] #[.pointer (some ⟨w.heap.size, 0, none⟩)]) ∧ w' = w.alloc (.cells #[.slice A n c] 50) := by
  go_enter Tryd.func25, Tryd.ntmps25
  go_wp2_with fail
  go_ret
  exact ⟨rfl, rfl⟩

/-- .. hands back a value that yields the lines from the last one on. -/
theorem back_stops (F : Fence) (n : Nat) (hF : F.fn 41) (hro : F.round = none) (hn : 1 ≤ n) (Bs b : Nat) (R : List (List UInt8)) (hlen : R.length ≤ 4194304) (w : World)
    (hBs : Blk w Bs 50 #[.slice (some ⟨b, 0, none⟩) R.length R.length]) (hc : Blk w b 9 (R.map str).toArray) :
    SeqStopsK F n Tryd.prog 41 #[.pointer (some ⟨Bs, 0, none⟩)] (fun x : Fin R.length => #[Value.int .i64 ((R.length : Int) - 1 - (x.1 : Int)), str (lineAt R x.1)]) (KB [Bs, b]) (fun ys => ys = firstF R.length R.length)
      (fun pre => ∃ k, k ≤ R.length ∧ pre = firstF R.length k) R.length w := fun l J Jx W hW _ _ hY h0 =>
  back1_in F n hF hro hn l Bs b R hlen J Jx hY W (hBs.below hW hBs.lt) (hc.below hW hc.lt) h0
end Go.Proofs.YtpfonniepinjnaaDoor
