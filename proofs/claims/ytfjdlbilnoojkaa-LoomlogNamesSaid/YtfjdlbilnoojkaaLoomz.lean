/- loomlog: what a loom does at an event (pick, back, mark), and its handler. -/
import Derived.Test.YtfjdlbilnoojkaaOwnUz
import Derived.Test.YtfjdlbilnoojkaaLogz
import Derived.Test.YtfjdlbilnoojkaaPicksz
import Derived.Test.YtfjdlbilnoojkaaProg
import Derived.KernelRfl
import Derived.Handy
import Derived.Outline
import Derived.Lib.SliceRun
import Derived.Lib.AppendZeros
namespace Go.Proofs.Ytfjdlbilnoojkaa
open Go.RowKit

/-- A loom in the block lb: its picks are ls; nothing that was there in w0 has turned. -/
structure Loom (w0 : World) (lb : Nat) (ls : List (List Bool)) (w : World) : Prop where
  bx : ∃ v, Blk w lb 72 #[v] ∧ LU w w0.heap.size 23 4 v ls.length ls
  lo : w0.heap.size ≤ lb
  below : Below w0.heap.size w0 w
theorem Loom.keep {w0 w w' : World} {lb : Nat} {ls : List (List Bool)} (h : Loom w0 lb ls w) (hb : Below w.heap.size w w') : Loom w0 lb ls w' := by
  obtain ⟨v, b, l⟩ := h.bx
  exact ⟨⟨v, b.keep hb, l.below hb⟩, h.lo, below_then h.below hb⟩

set_option maxHeartbeats 1000000 in
theorem handler_1 (w : World) : Calls Try.prog 48 #[.int .u8 1] w fun e w' => e = .returned (.func (.func 59) #[] #[]) ∧ w' = w := by
  go_enter Try.func48, Try.ntmps48
  go_wp2_with fail
  go_ret
  exact ⟨rfl, rfl⟩
set_option maxHeartbeats 1000000 in
theorem handler_2 (w : World) : Calls Try.prog 48 #[.int .u8 2] w fun e w' => e = .returned (.func (.func 60) #[] #[]) ∧ w' = w := by
  go_enter Try.func48, Try.ntmps48
  go_wp2_with fail
  go_ret
  exact ⟨rfl, rfl⟩
set_option maxHeartbeats 1000000 in
theorem handler_3 (w : World) : Calls Try.prog 48 #[.int .u8 3] w fun e w' => e = .returned (.func (.func 61) #[] #[]) ∧ w' = w := by
  go_enter Try.func48, Try.ntmps48
  go_wp2_with fail
  go_ret
  exact ⟨rfl, rfl⟩
theorem mark_any (v x : Value) (w : World) : Calls Try.prog 61 #[v, x] w fun e w' => e = .returned (.int .i64 0) ∧ w' = w := by
  go_enter Try.func61, Try.ntmps61
  go_wp2_with fail
  go_ret
  exact ⟨rfl, rfl⟩
set_option maxHeartbeats 1000000 in
theorem back_none (w0 : World) (lb : Nat) (x : Value) (w : World) (h : Loom w0 lb [] w) : Calls Try.prog 60 #[.pointer (some ⟨lb, 0, none⟩), x] w fun e w' => e = .returned (.int .i64 36) ∧ w' = w := by
  obtain ⟨v, hb, hl⟩ := h.bx
  obtain ⟨A, c, rfl, hc, hm⟩ := hl.shape
  have c0 := hb.cell 0
  clear h hl hb
  go_enter Try.func60, Try.ntmps60
  go_wp2_with fail
  go_ret
  exact ⟨rfl, rfl⟩
set_option maxHeartbeats 1000000 in
theorem back_any (w0 : World) (lb n : Nat) (ls : List (List Bool)) (x : Value) (w : World) (hn : ls.length = n + 1) (hn2 : n ≤ 64) (h : Loom w0 lb ls w) : Calls Try.prog 60 #[.pointer (some ⟨lb, 0, none⟩), x] w fun e w' => e = .returned (.int .i64 0) ∧ Loom w0 lb ls.dropLast w' := by
  obtain ⟨v, hb, hl⟩ := h.bx
  rw [hn] at hl
  obtain ⟨A, c, rfl, hc, hm⟩ := hl.shape
  have c0 := hb.cell 0
  have c1 := hb.frozen 0
  have HC := Lib.hid (hl.cut.far hb h.lo (by decide) (by decide) 0 (.slice A n n))
  have HB := Lib.hid (show Blk (w.setCell ⟨lb, 0, none⟩ (.slice A n n)) lb 72 #[.slice A n n] from by simpa using hb.set_ 0 (.slice A n n))
  have HW := Lib.hid (h.below.setCell (p := ⟨lb, 0, none⟩) h.lo (.slice A n n))
  have HN := Lib.hid hn
  have HL := h.lo
  clear h hl hb hn
  go_enter Try.func60, Try.ntmps60
  go_wp2_with fail
  go_ret
  refine ⟨rfl, ⟨_, HB.out, ?_⟩, HL, HW.out⟩
  rw [List.length_dropLast, HN.out]
  exact HC.out
set_option maxHeartbeats 1000000 in
theorem pick_full (w0 : World) (lb : Nat) (ls : List (List Bool)) (x : Value) (w : World) (hn : ls.length = 64) (h : Loom w0 lb ls w) : Calls Try.prog 59 #[.pointer (some ⟨lb, 0, none⟩), x] w fun e w' => e = .returned (.int .i64 4) ∧ w' = w := by
  obtain ⟨v, hb, hl⟩ := h.bx
  rw [hn] at hl
  obtain ⟨A, c, rfl, hc, hm⟩ := hl.shape
  have c0 := hb.cell 0
  clear h hl hb
  go_enter Try.func59, Try.ntmps59
  go_wp2_with fail
  go_ret
  exact ⟨rfl, rfl⟩
set_option maxHeartbeats 1000000 in
set_option maxRecDepth 100000 in
theorem pick_any (w0 : World) (lb n : Nat) (ls : List (List Bool)) (A' : Option Addr) (c' : Nat) (r : List Bool) (w : World) (hn : ls.length = n) (hn2 : n < 64) (h : Loom w0 lb ls w) (hr : RowAt w w0.heap.size 4 A' r) :
    Calls Try.prog 59 #[.pointer (some ⟨lb, 0, none⟩), .slice A' r.length c'] w fun e w' => e = .returned (.int .i64 0) ∧ Loom w0 lb (ls ++ [r]) w' := by
  obtain ⟨i0, hinf, hz0, hz1, hz2⟩ := info_parts Try.infoRow
  obtain ⟨v, hb, hl⟩ := h.bx
  rw [hn] at hl
  obtain ⟨A, c, rfl, hc, hm⟩ := hl.shape
  have c0 := hb.cell 0
  have hB0 : Below w.heap.size w (w.alloc (.cells #[.slice A' r.length c'] 23)) := below_alloc1 w _
  have hl1 := hl.below hB0
  have hb1 := hb.keep hB0
  have hr1 := hr.below hB0
  have hW1 := below_then h.below hB0
  obtain ⟨xs, hx, happ⟩ := hl1.open (by decide)
  obtain ⟨g, c2, w2, hrun, hx2, hg2⟩ := run_app_U (P := Try.prog) (w.alloc (.cells #[.slice A' r.length c'] 23)) w0.heap.size 70 70 23 i0 (.slice none 0 0) 24 Try.underlying70 hinf hz0 hz1 hz2 rfl _ _ xs hx ⟨w.heap.size, 0, none⟩ (.slice A' r.length c') (by rw [(Blk.new w _ _).cell 0]; rfl) rfl (by unfold maxLen; omega) (by omega) (by have := hW1.size; exact this)
  have HL := Lib.hid (happ w2 _ A' c' r hr1 hx2 hg2)
  have hno : ∀ g, (Value.slice A n c).ownBlock = some g → w0.heap.size ≤ g ∧ ∃ cs, (w.alloc (.cells #[.slice A' r.length c'] 23)).heap[g]? = some (.cells cs 23 (0, 0)) := fun g e => ⟨(hx.block g e).1, (hx.block g e).2.2⟩
  have hb2 : Blk w2 lb 72 #[.slice A n c] := hb1.grown hg2 (fun e => by
    obtain ⟨_, cs, h3⟩ := hno _ e.symm
    have := (show _ = _ from hb1).symm.trans h3
    injection this with e1
    injection e1 with _ e2 _
    exact absurd e2 (by decide))
  have hW2 : Below w0.heap.size w0 w2 := Below.grown hW1 hg2 hW1.size (fun g e => (hno g e).1)
  have c1 := hb2.cell 0
  have c2f := hb2.frozen 0
  have HL2 := Lib.hid (HL.out.far hb2 h.lo (by decide) (by decide) 0 (.slice (some ⟨g, 0, none⟩) (n + 1) c2))
  have HB := Lib.hid (show Blk (w2.setCell ⟨lb, 0, none⟩ (.slice (some ⟨g, 0, none⟩) (n + 1) c2)) lb 72 #[.slice (some ⟨g, 0, none⟩) (n + 1) c2] from by simpa using hb2.set_ 0 (.slice (some ⟨g, 0, none⟩) (n + 1) c2))
  have HW := Lib.hid (hW2.setCell (p := ⟨lb, 0, none⟩) h.lo (.slice (some ⟨g, 0, none⟩) (n + 1) c2))
  have HN := Lib.hid hn
  have HLo := h.lo
  have hsz : lb < w2.heap.size := hb2.lt
  have hne : n ≠ 64 := by omega
  clear h hl hb hn hl1 hb1 hr1 hW1 happ hx hx2 hg2 hno hb2 hW2 HL hr hB0
  go_enter Try.func59, Try.ntmps59
  go_wp2_with (at_builtin; go_loud (refine Lib.wpList_append_run _ rfl _ _ _ _ rfl _ _ rfl rfl _ _ hrun ?_))
  go_wp2_with fail
  go_ret
  refine ⟨rfl, ⟨_, HB.out, ?_⟩, HLo, HW.out⟩
  rw [List.length_append, HN.out]
  exact HL2.out
end Go.Proofs.Ytfjdlbilnoojkaa
