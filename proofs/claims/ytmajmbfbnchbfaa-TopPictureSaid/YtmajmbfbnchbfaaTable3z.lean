/- draft.table makes the table of a function value, row by row, in new memory; sides of at most 64. -/
import Derived.Test.YtmajmbfbnchbfaaMg3z
import Derived.Test.YtmajmbfbnchbfaaMg2z
import Derived.Handy
import Derived.Outline
import Derived.Deep.DeepMust
import Derived.Deep.RegionLaw
import Derived.Shelf.Abstract
import Derived.Deep.RegionHeld3
import Derived.Deep.AppendLies
namespace Go.Proofs.Ytmajmbfbnchbfaa
open Go.RowKit

set_option maxHeartbeats 1600000 in
theorem table_any (f : FuncId) (caps : Array Value) (a b : Nat) (F : Nat → Nat → Bool) (w : World) (ha : a ≤ 64) (hb : b ≤ 64) (hE : ∀ (args : Array Value) (w : World), (callFunc f args).run Try.prog w = .ok (.enter f args) w) (hf : Gives f caps a b F w) :
    Calls Try.prog 22 #[.int .i64 a, .int .i64 b, .func (.func f) #[] caps] w fun e w' =>
      ∃ A c, e = .returned (.agg #[.int .i64 a, .int .i64 b, .slice A (b * a) c]) ∧ w'.ownsRow w.heap.size 4 1 (.slice A (b * a) c) (b * a) ((Pl.tab a b F).map Value.bool) ∧ Below w.heap.size w w' := by
  obtain ⟨i0, hi, hz0, hz1, hz2⟩ := info_parts Try.infoB
  have hm0 : 0 ≤ (a : Int) * (b : Int) := Int.mul_nonneg (by omega) (by omega)
  have hm1 : (a : Int) * (b : Int) ≤ 4096 := Int.mul_le_mul (c := 64) (d := 64) (by omega) (by omega) (by omega) (by omega)
  have S0 := ((St.start w).box #[.int .i64 0, .int .i64 0, .slice none 0 0] 25).box #[.int .i64 a, .int .i64 b, .slice none 0 0] 25
  simp only [size_alloc1, List.nil_append, List.cons_append] at S0
  have hr1 := S0.blk 0 rfl
  have hblk1 := S0.blk 1 rfl
  have hb1 := S0.below
  have hsz1 : w.heap.size < w.heap.size + 1 := Nat.lt_succ_self _
  go_enter Try.func22, Try.ntmps22
  go_wp2_with fail
  go_loopw [14] (fun i wr => ∃ (y cp : Nat) (A0 : Option Addr), y ≤ b ∧ i = .int .i64 y ∧ Blk wr (w.heap.size + 1) 25 #[.int .i64 a, .int .i64 b, .slice A0 (y * a) cp] ∧
      Blk wr w.heap.size 25 #[.int .i64 0, .int .i64 0, .slice none 0 0] ∧
      wr.ownsRow w.heap.size 4 1 (.slice A0 (y * a) cp) (y * a) ((Pl.tab a y F).map Value.bool) ∧ Below w.heap.size w wr)
    (fun i _ => b - (intOf i).toNat)
  case atStart => exact ⟨0, 0, none, Nat.zero_le _, rfl, by simpa using hblk1, hr1, by simpa [Pl.tab_zero] using World.ownsRow_nil _ _ _ _, hb1⟩
  case round =>
    obtain ⟨y, cp, A0, hy, rfl, hblk, hr, hown, hbel⟩ := hrel
    by_cases hlt : y < b
    · go_wp2_with fail
      go_loopw [18] (fun i wr => ∃ (x cp : Nat) (A0 : Option Addr), x ≤ a ∧ i = .int .i64 x ∧ Blk wr (w.heap.size + 1) 25 #[.int .i64 a, .int .i64 b, .slice A0 (y * a + x) cp] ∧
          Blk wr w.heap.size 25 #[.int .i64 0, .int .i64 0, .slice none 0 0] ∧
          wr.ownsRow w.heap.size 4 1 (.slice A0 (y * a + x) cp) (y * a + x) ((Pl.tab a y F ++ (List.range x).map fun x => F x y).map Value.bool) ∧ Below w.heap.size w wr)
        (fun i _ => a - (intOf i).toNat)
      case atStart => exact ⟨0, cp, A0, Nat.zero_le _, rfl, hblk, hr, by simpa using hown, hbel⟩
      case round =>
        clear hblk hr hown hbel
        obtain ⟨x, cp, A0, hx, rfl, hblk, hr, hown, hbel⟩ := hrel
        by_cases hltx : x < a
        · have HC := Lib.hid (fun W hB => hf W x y hB hltx hlt)
          clear hf
          have hbs := hblk.lt
          have c2 := hblk.cell 2
          simp only [List.getElem?_toArray, List.getElem?_cons_zero, List.getElem?_cons_succ] at c2
          go_wp2_with fail
          have hsm : y * a + x + 1 ≤ 1048576 := by
            have h1 := Pl.cell_lt (w := a) (h := b) hltx hlt
            have h2 : b * a ≤ 64 * 64 := Nat.mul_le_mul hb ha
            omega
          have hsx : w.heap.size ≤ wr.heap.size := hbel.size
          go_region_law
            (first
              | (go_simp
                 go_at_fn f
                 refine (HC.out wr.drew hbel.drew).mono ?_
                 rintro e w2 ⟨rfl, hb2⟩
                 have hown2 := own_below hown.drew hb2
                 have hblk2 := hblk.drew.keep hb2
                 have cc2 := hblk2.cell 2
                 have cc2a := fun o => (hblk2.alloc o).cell 2
                 have hs2 : wr.heap.size ≤ w2.heap.size := hb2.size)
              | (refine step_app _ rfl (.tmp 22) (.tmp 27) 23 rfl w.heap.size 4 i0 (.bool false) 1 Try.underlying23 hi hz0 hz1 hz2 rfl (by decide) (.slice A0 (y * a + x) cp) (y * a + x) _ rfl (hown2.alloc _) w2.heap.size (.bool (F x y)) rfl (new_cell w2 _ _) rfl hsm (size_alloc_le (Nat.le_trans hsx hs2) _) ?_; intro g' cp' w3 hown3 hgr3; have hblk3 := (hblk2.alloc _).grown hgr3 (own_blk_ne hown2 hblk2 (by decide)); have hfz3 := hblk3.frozen 2; have cc3 := hblk3.cell 2)
              | fail)
          all_goals
            have hr2 := (hr.drew.keep hb2).alloc (.cells #[.bool (F x y)] 4)
            have hr3 := hr2.grown hgr3 (own_blk_ne (hown2.alloc (.cells #[.bool (F x y)] 4)) hr2 (by decide))
            have hbel3 : Below w.heap.size w w3 := ((hbel.drew.trans (hb2.mono hbel.size)).alloc (Nat.le_trans hbel.size hs2) _).grown hgr3 (size_alloc_le (Nat.le_trans hbel.size hs2) _) (fun k hk => (hown2.lt k hk).1)
            have R1 := Lib.hid (hblk3.set_ 2 (.slice (some ⟨g', 0, none⟩) (y * a + x + 1) cp'))
            have R2 := Lib.hid (hr3.far (p := ⟨(w.heap.size + 1), 2, none⟩) (Nat.ne_of_lt hsz1) (.slice (some ⟨g', 0, none⟩) (y * a + x + 1) cp'))
            have R3 := Lib.hid (own_far hown3 (p := ⟨(w.heap.size + 1), 2, none⟩) (own_blk_ne hown3 hblk3 (by decide)) (.slice (some ⟨g', 0, none⟩) (y * a + x + 1) cp'))
            have R4 := Lib.hid (hbel3.setCell (p := ⟨(w.heap.size + 1), 2, none⟩) (Nat.le_of_lt hsz1) (.slice (some ⟨g', 0, none⟩) (y * a + x + 1) cp'))
            clear hr hown hbel hblk hbs c2 hb2 hown2 hblk2 cc2 cc2a hown3 hgr3 hblk3 hfz3 cc3 hr2 hr3 hbel3
            go_wp2_with fail
            go_roundw
            case rel => exact ⟨x + 1, cp', some ⟨g', 0, none⟩, by omega, by go_num, by simpa [Nat.add_assoc] using R1.out, R2.out, by simpa [List.range_succ, Nat.add_assoc] using R3.out, R4.out⟩
            case measure => simp [intOf]; omega
        · have hxa : x = a := by omega
          subst hxa
          go_wp2_with fail
          go_roundw
          case rel => exact ⟨y + 1, cp, A0, by omega, by go_num, by simpa [Nat.succ_mul] using hblk, hr, by rw [Pl.tab_succ]; simpa [Nat.succ_mul] using hown, hbel⟩
          case measure => simp [intOf]; omega
    · have hyb : y = b := by omega
      subst hyb
      have c0 := hblk.cell 0
      have c1 := hblk.cell 1
      have c2 := hblk.cell 2
      have r0 := hr.cell 0
      have r1 := hr.cell 1
      have r2 := hr.cell 2
      have f0 := hr.frozen 0
      have f1 := hr.frozen 1
      have f2 := hr.frozen 2
      simp only [List.getElem?_toArray, List.getElem?_cons_zero, List.getElem?_cons_succ] at c0 c1 c2 r0 r1 r2
      have hq := ((hr.set_ 0 (.int .i64 a)).set_ 1 (.int .i64 y)).set_ 2 (.slice A0 (y * a) cp)
      have q0 := hq.cell 0
      have q1 := hq.cell 1
      have q2 := hq.cell 2
      simp at q0 q1 q2
      clear hq
      go_wp2_with fail
      refine bodyPost_ret (v := .agg #[.int .i64 a, .int .i64 y, .slice A0 (y * a) cp]) (by simp [results, Try.results22, go_sem, q0, q1, q2]) rfl ?_
      exact ⟨_, cp, rfl, own_set3 hown hr (by decide) _ _ _, below_set3 hbel (Nat.le_refl _) _ _ _⟩
end Go.Proofs.Ytmajmbfbnchbfaa
