/- slices.Chunk of bools: its iterator's contract (a range over a function); the pieces are all of one length. -/
import Derived.RangeFuncNested
import Derived.RangeFuncBound
import Derived.RangeFuncCalls
import Derived.RangeFuncLeaves
import Derived.Shelf.Abstract
import Derived.Shelf.RegionOpen
import Derived.WalkKit
import Derived.OwnWalkIn
import Derived.TacticsInMore
import Derived.LoopNIn
import Derived.LoopIn
import Derived.KernelRfl
import Derived.Test.YtfjdlbilnoojkaaProg
import Derived.Test.YtfjdlbilnoojkaaLibz
import Derived.Test.YtfjdlbilnoojkaaMg1z
namespace Go.Proofs.Ytfjdlbilnoojkaa
open Go.RowKit Go.Shelf

attribute [local go_sem] Oper.semAt_some

/-- Piece k of a slice cut into pieces of length W. -/
def piece (b o W k : Nat) : Value := .slice (some ⟨b, o + k * W, none⟩) W W
set_option maxRecDepth 100000 in
set_option maxHeartbeats 4000000 in
/-- The closure of slices.Chunk, for every body that keeps the two boxes: h pieces of length a. -/
theorem chunk1_in (F : Fence) (n : Nat) (hF : F.fn 63) (hro : F.round = none) (hn : 1 ≤ n) (l Bs Bn b o c a h : Nat) (ha1 : 1 ≤ a) (ha : a ≤ 64) (hh : h ≤ 64) (hc : h * a ≤ c) (J Jx : List (Fin h) → World → Prop) (W : World) (hJab : AbidesFrom W.heap.size J)
    (hY : ∀ pre x W1, J pre W1 → pre.length < h → YieldAt F (n - 1) Try.prog l #[piece b o a x.1] W1 fun e W' =>
      (e = .returned (.bool true) ∧ J (pre ++ [x]) W' ∧ KB [Bs, Bn] W1 W') ∨ (e = .returned (.bool false) ∧ Jx (pre ++ [x]) W'))
    (hBs : Blk W Bs 23 #[.slice (some ⟨b, o, none⟩) (h * a) c]) (hBn : Blk W Bn 3 #[.int .i64 a]) (h0 : J [] W) :
    CallsIn F n Try.prog 63 #[.func (.yield l) #[] #[], .pointer (some ⟨Bs, 0, none⟩), .pointer (some ⟨Bn, 0, none⟩)] W fun e W' => (∃ v, e = .returned v) ∧
      ((∃ ys, ys = firstF h h ∧ J ys W') ∨ (∃ pre, (∃ k, k ≤ h ∧ pre = firstF h k) ∧ Jx pre W')) := by
  refine callsIn_of_wp Try.func63 rfl hF ?_ hro
  simp only [Try.ntmps63, List.size_toArray, List.length_cons, List.length_nil, Nat.reduceAdd, Nat.reduceSub, Array.replicate_succ, Array.replicate_zero, List.push_toArray, List.append_toArray, List.nil_append, List.cons_append]
  gi_wp2
  gi_loopw [4] (fun i wr => ∃ k : Nat, k ≤ h ∧ i = .int .i64 ((k * a : Nat) : Int) ∧ J (firstF h k) wr ∧ KB [Bs, Bn] W wr)
    (fun i _ => h * a - (intOf i).toNat)
  case atStart => exact ⟨0, Nat.zero_le _, by simp, h0, KB.refl _ _⟩
  case round =>
    obtain ⟨k, hk, rfl, hJs, hnx⟩ := hrel
    have hcs : wr.cell? ⟨Bs, 0, none⟩ = some (.slice (some ⟨b, o, none⟩) (h * a) c) := (hnx.blk (by simp) hBs).cell 0
    have hcn : wr.cell? ⟨Bn, 0, none⟩ = some (.int .i64 a) := (hnx.blk (by simp) hBn).cell 0
    by_cases hlt : k < h
    · have hJd : J (firstF h k) wr.drew := hJab _ _ _ none hJs ⟨rfl, rfl, rfl, Nat.le_refl _, fun _ _ _ => rfl⟩ (fun r e => by cases e)
      obtain ⟨fn, tmps, assign, body, hy, hR⟩ := hY _ ⟨k, hlt⟩ wr.drew hJd (by rw [firstF_length (by omega)]; exact hlt)
      have hka : (k + 1) * a ≤ h * a := Nat.mul_le_mul_right a hlt
      have hkm : (k + 1) * a = k * a + a := Nat.succ_mul k a
      have hhb : h * a ≤ 64 * 64 := Nat.mul_le_mul hh ha
      dsimp only [piece] at hy
      have hkm' := Lib.hid hkm
      have HK : Hid (KB [Bs, Bn] W wr.drew) := Lib.hid hnx
      clear hkm hJd
      rw [hkm'.out] at hka
      generalize hqk : k * a = q at *
      generalize h * a = L at *
      have hqk' := Lib.hid hqk
      clear hqk
      have hq1 : (q : Int) < (L : Int) := by omega
      have hq2 : (q : Int) ≤ (L : Int) := by omega
      have hq3 : q ≤ L := by omega
      have hq4 : q < L := by omega
      have hq5 : (a : Int) ≤ ((L - q : Nat) : Int) := by omega
      have hq6 : IntKind.i64.wrap ((q : Int) + (a : Int)) = (q : Int) + (a : Int) := wrap_small _ (by omega) (by omega)
      have hq7 : a ≤ L - q := by omega
      gi_wp2
      gi_region
      all_goals
        gi_wp2
        refine hR.mono ?_
        rintro e W3 (⟨rfl, hJ3, hk3⟩ | ⟨rfl, hJx3⟩)
        · have hcn3 : W3.cell? ⟨Bn, 0, none⟩ = some (.int .i64 a) := ((HK.out.trans hk3).blk (by simp) hBn).cell 0
          gi_wp2
          refine ⟨⟨k + 1, hlt, by rw [hkm'.out]; push_cast; rfl, by rw [firstF_succ hlt]; exact hJ3, HK.out.trans hk3⟩, by simp [intOf]; omega⟩
        · gi_wp2
          refine bodyPost_ret (results_none rfl _ _ _) rfl ?_
          exact ⟨⟨_, rfl⟩, .inr ⟨_, ⟨k + 1, by omega, (firstF_succ hlt).symm⟩, hJx3⟩⟩
    · obtain rfl : k = h := by omega
      gi_wp2
      go_end0
      exact ⟨⟨_, rfl⟩, .inl ⟨_, rfl, hJs⟩⟩
/-- slices.Chunk(s, n): both are boxed; the function value captures the boxes. -/
theorem chunk_any (A : Option Addr) (n c a : Nat) (ha : 1 ≤ a) (w : World) :
    Calls Try.prog 51 #[.slice A n c, .int .i64 a] w fun e w' => e = .returned (.func (.func 63) #[] #[.pointer (some ⟨w.heap.size, 0, none⟩), .pointer (some ⟨w.heap.size + 1, 0, none⟩)]) ∧ w' = (w.alloc (.cells #[.slice A n c] 23)).alloc (.cells #[.int .i64 a] 3) := by
  have h1 : decide ((a : Int) < 1) = false := by simp; omega
  go_enter Try.func51, Try.ntmps51
  go_wp2_with fail
  go_ret
  exact ⟨by simp, rfl⟩

/-- .. hands back a value that yields the pieces. -/
theorem chunk_stops (F : Fence) (n : Nat) (hF : F.fn 63) (hro : F.round = none) (hn : 1 ≤ n) (Bs Bn b o c a h : Nat) (ha1 : 1 ≤ a) (ha : a ≤ 64) (hh : h ≤ 64) (hc : h * a ≤ c) (w : World)
    (hBs : Blk w Bs 23 #[.slice (some ⟨b, o, none⟩) (h * a) c]) (hBn : Blk w Bn 3 #[.int .i64 a]) :
    SeqStopsK F n Try.prog 63 #[.pointer (some ⟨Bs, 0, none⟩), .pointer (some ⟨Bn, 0, none⟩)] (fun x : Fin h => #[piece b o a x.1]) (KB [Bs, Bn]) (fun ys => ys = firstF h h)
      (fun pre => ∃ k, k ≤ h ∧ pre = firstF h k) h w := fun l J Jx W hW hJ _ hY h0 =>
  chunk1_in F n hF hro hn l Bs Bn b o c a h ha1 ha hh hc J Jx W hJ hY (hBs.below hW hBs.lt) (hBn.below hW hBn.lt) h0
end Go.Proofs.Ytfjdlbilnoojkaa
