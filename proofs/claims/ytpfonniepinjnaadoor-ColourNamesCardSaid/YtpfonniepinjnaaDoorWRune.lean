/- strings.Builder: WriteRune of an ASCII rune. -/
import Derived.Test.YtpfonniepinjnaaDoorBld
import Derived.Test.YtpfonniepinjnaaDoorLib
namespace Go.Proofs.YtpfonniepinjnaaDoor
open Go.RowKit Go.Shelf

set_option maxHeartbeats 1000000 in
set_option maxRecDepth 100000 in
theorem appendRune_any (B : Nat) (v : Value) (n : Nat) (xs : List Value) (c : Int) (w : World) (hc0 : 0 ≤ c) (hc1 : c ≤ 127) (hown : w.ownsRow B 5 1 v n xs) (hn : n + 1 ≤ 1048576) (hBw : B ≤ w.heap.size) :
    Calls Tryd.prog 43 #[v, .int .i32 c] w fun e w' => ∃ g cap, e = .returned (.slice (some ⟨g, 0, none⟩) (n + 1) cap) ∧ w'.ownsRow B 5 1 (.slice (some ⟨g, 0, none⟩) (n + 1) cap) (n + 1) (xs ++ [.int .u8 c]) ∧ (w.alloc (.cells #[.int .u8 c] 5)).grownBy w' v.ownBlock := by
  obtain ⟨i0, hi, hz0, hz1, hz2⟩ := info_parts Tryd.infoByte
  have h32 : IntKind.u32.wrap c = c := by unfold IntKind.wrap; simp [IntKind.bits, IntKind.signed]; omega
  have h8 : IntKind.u8.wrap c = c := by unfold IntKind.wrap; simp [IntKind.bits, IntKind.signed]; omega
  go_enter Tryd.func43, Tryd.ntmps43
  go_wp2_with (at_builtin; go_loud (refine wpList_app _ rfl (.tmp 8) (.tmp 11) 57 rfl B 5 i0 (.int .u8 0) 1 Tryd.underlying57 hi hz0 hz1 hz2 rfl (by decide) v n xs rfl (hown.alloc _) w.heap.size (.int .u8 c) rfl (new_cell w _ _) rfl hn (size_alloc_le hBw _) ?_))
  intro g cap w2 hown2 hgr
  go_wp2_with fail
  go_ret
  exact ⟨g, cap, rfl, hown2, hgr⟩

set_option maxHeartbeats 1000000 in
set_option maxRecDepth 100000 in
theorem writeRune_any (B b : Nat) (bs : List Value) (c : Int) (w : World) (h : Lib.IsBuilder 61 5 B b bs w) (hc0 : 0 ≤ c) (hc1 : c ≤ 127) (hlen : bs.length + 1 ≤ 1048576) (hBw : B ≤ w.heap.size) :
    Calls Tryd.prog 27 #[.pointer (some ⟨b, 0, none⟩), .int .i32 c] w fun e w' => e = .returned (.tuple #[.int .i64 1, .nilIface]) ∧ Lib.IsBuilder 61 5 B b (bs ++ [.int .u8 c]) w' ∧ Below B w w' := by
  go_enter Tryd.func27, Tryd.ntmps27
  go_wp2_with (go_at_call 42; refine (copyCheck_any B b bs _ h).mono ?_)
  rintro e w1 ⟨rfl, h1, hb1⟩
  obtain ⟨hB, v, hbk, hown, hne⟩ := h1
  have c0 : w1.cell? ⟨b, 0, none⟩ = some (.pointer (some ⟨b, 0, none⟩)) := by rw [Lib.cell_of_heap hbk]; rfl
  have c1 : w1.cell? ⟨b, 1, none⟩ = some v := by rw [Lib.cell_of_heap hbk]; rfl
  have hBw1 : B ≤ w1.heap.size := Nat.le_trans hBw hb1.size
  have hlt : b < w1.heap.size := by
    rcases Nat.lt_or_ge b w1.heap.size with h' | h'
    · exact h'
    · simp [Array.getElem?_eq_none h'] at hbk
  obtain ⟨A0, k0, rfl, _, _⟩ := own_shape hown
  go_wp2_with (go_at_call 43; refine (appendRune_any B _ bs.length bs c _ hc0 hc1 hown hlen hBw1).mono ?_)
  rintro e w2 ⟨g, cap, rfl, hown', hgrow⟩
  have hb2 : w2.heap[b]? = some (.cells #[.pointer (some ⟨b, 0, none⟩), .slice A0 bs.length k0] 61 (0, 0)) := by
    rw [hgrow.block b (by simp; omega) (fun e => hne e.symm), Lib.alloc_old w1 _ b hlt]
    exact hbk
  have d0 : w2.cell? ⟨b, 0, none⟩ = some (.pointer (some ⟨b, 0, none⟩)) := by rw [Lib.cell_of_heap hb2]; rfl
  have d1 : w2.cell? ⟨b, 1, none⟩ = some (.slice A0 bs.length k0) := by rw [Lib.cell_of_heap hb2]; rfl
  have f1 : w2.frozen? ⟨b, 1, none⟩ = false := Lib.frozen_of_heap hb2 1
  go_wp2
  have he : ((bs.length : Int) + 1 - (bs.length : Int)) = 1 := by omega
  rw [he]
  go_ret2
  refine ⟨rfl, Or.inr ?_, ?_⟩
  · exact Lib.BuilderAt.put (T := 61) (e := 5) hB hb2 (bs' := bs ++ [.int .u8 c]) (by simpa using hown') (by decide)
  · exact ((hb1.alloc hBw1 _).grown hgrow (by simp; omega) (fun k hk => (hown.lt k hk).1)).setCell (p := ⟨b, 1, none⟩) hB _
end Go.Proofs.YtpfonniepinjnaaDoor
