/- colour's view.image makes the table of a function value, row by row, in new memory; sides of at most 64. -/
import Derived.Test.YtmajmbfbnchbfaaMg3z
import Derived.Test.YtmajmbfbnchbfaaFinez
import Derived.Deep.RegionLaw
import Derived.Deep.RegionHeld3
import Derived.Deep.AppendLies
namespace Go.Proofs.Ytmajmbfbnchbfaa
open Go.RowKit

/-- A function value that gives the colour (x, y) of a table, whatever has been made since w. -/
def GivesI (f : FuncId) (caps : Array Value) (a b : Nat) (F : Nat → Nat → Int) (w : World) : Prop :=
  ∀ (w' : World) (x y : Nat), Below w.heap.size w w' → x < a → y < b →
    Calls Try.prog f (#[.int .i64 x, .int .i64 y] ++ caps) w' fun e w'' => e = .returned (.int .i64 (F x y)) ∧ Below w'.heap.size w' w''


set_option maxHeartbeats 1600000 in
theorem image_any (f : FuncId) (caps : Array Value) (a b : Nat) (F : Nat → Nat → Int) (w : World) (ha : a ≤ 64) (hb : b ≤ 64) (hE : ∀ (args : Array Value) (w : World), (callFunc f args).run Try.prog w = .ok (.enter f args) w) (hf : GivesI f caps a b F w) :
    Calls Try.prog 28 #[.agg #[.int .i64 a, .int .i64 b, .func (.func f) #[] caps]] w (RetJ ⟨a, b, Pl.tab a b F⟩ w) := by
  obtain ⟨i0, hi, hz0, hz1, hz2⟩ := info_parts Try.infoI
  have hV0 := ((Blk.new w 64 #[.int .i64 a, .int .i64 b, .func (.func f) #[] caps]).alloc (.cells #[.int .i64 0, .int .i64 0, .slice none 0 0] 36)).alloc (.cells #[.int .i64 a, .int .i64 b, .slice none 0 0] 36)
  have hR0 : Blk (((w.alloc (.cells #[.int .i64 a, .int .i64 b, .func (.func f) #[] caps] 64)).alloc (.cells #[.int .i64 0, .int .i64 0, .slice none 0 0] 36)).alloc (.cells #[.int .i64 a, .int .i64 b, .slice none 0 0] 36)) (w.heap.size + 1) 36 #[.int .i64 0, .int .i64 0, .slice none 0 0] := by
    simpa using (Blk.new (w.alloc (.cells #[.int .i64 a, .int .i64 b, .func (.func f) #[] caps] 64)) 36 #[.int .i64 0, .int .i64 0, .slice none 0 0]).alloc (.cells #[.int .i64 a, .int .i64 b, .slice none 0 0] 36)
  have hM0 : Blk (((w.alloc (.cells #[.int .i64 a, .int .i64 b, .func (.func f) #[] caps] 64)).alloc (.cells #[.int .i64 0, .int .i64 0, .slice none 0 0] 36)).alloc (.cells #[.int .i64 a, .int .i64 b, .slice none 0 0] 36)) (w.heap.size + 1 + 1) 36 #[.int .i64 a, .int .i64 b, .slice none 0 0] := by
    simpa using Blk.new ((w.alloc (.cells #[.int .i64 a, .int .i64 b, .func (.func f) #[] caps] 64)).alloc (.cells #[.int .i64 0, .int .i64 0, .slice none 0 0] 36)) 36 #[.int .i64 a, .int .i64 b, .slice none 0 0]
  have hB0 : Below w.heap.size w (((w.alloc (.cells #[.int .i64 a, .int .i64 b, .func (.func f) #[] caps] 64)).alloc (.cells #[.int .i64 0, .int .i64 0, .slice none 0 0] 36)).alloc (.cells #[.int .i64 a, .int .i64 b, .slice none 0 0] 36)) :=
    (((Below.refl w.heap.size w).alloc (Nat.le_refl _) _).alloc (by simp) _).alloc (by simp; omega) _
  go_enter Try.func28, Try.ntmps28
  go_wp2_with fail
  go_loopw [13] (fun i wr => ∃ (y cp : Nat) (A : Option Addr), y ≤ b ∧ i = .int .i64 y ∧ Blk wr (w.heap.size + 1 + 1) 36 #[.int .i64 a, .int .i64 b, .slice A (y * a) cp] ∧
      Blk wr (w.heap.size + 1) 36 #[.int .i64 0, .int .i64 0, .slice none 0 0] ∧ Blk wr w.heap.size 64 #[.int .i64 a, .int .i64 b, .func (.func f) #[] caps] ∧
      wr.ownsRow w.heap.size 3 1 (.slice A (y * a) cp) (y * a) ((Pl.tab a y F).map (Value.int .i64)) ∧ Below w.heap.size w wr)
    (fun i _ => b - (intOf i).toNat)
  case atStart => exact ⟨0, 0, none, Nat.zero_le _, rfl, by simpa using hM0, hR0, hV0, by simpa [Pl.tab_zero] using World.ownsRow_nil _ _ _ _, hB0⟩
  case round =>
    clear hM0 hR0 hV0 hB0
    obtain ⟨y, cp, A, hy, rfl, hblk, hr, hv, hown, hbel⟩ := hrel
    obtain ⟨v0, v1, v2⟩ := hv.cell3
    by_cases hlt : y < b
    · go_wp2_with fail
      go_loopw [18] (fun i wr => ∃ (x cp : Nat) (A : Option Addr), x ≤ a ∧ i = .int .i64 x ∧ Blk wr (w.heap.size + 1 + 1) 36 #[.int .i64 a, .int .i64 b, .slice A (y * a + x) cp] ∧
          Blk wr (w.heap.size + 1) 36 #[.int .i64 0, .int .i64 0, .slice none 0 0] ∧ Blk wr w.heap.size 64 #[.int .i64 a, .int .i64 b, .func (.func f) #[] caps] ∧
          wr.ownsRow w.heap.size 3 1 (.slice A (y * a + x) cp) (y * a + x) ((Pl.tab a y F ++ (List.range x).map fun x => F x y).map (Value.int .i64)) ∧ Below w.heap.size w wr)
        (fun i _ => a - (intOf i).toNat)
      case atStart => exact ⟨0, cp, A, Nat.zero_le _, rfl, hblk, hr, hv, by simpa using hown, hbel⟩
      case round =>
        clear hblk hr hv hown hbel v0 v1 v2 A
        obtain ⟨x, cp, A, hx, rfl, hblk, hr, hv, hown, hbel⟩ := hrel
        by_cases hltx : x < a
        · have HC := Lib.hid (fun W hB => hf W x y hB hltx hlt)
          clear hf
          have hbs := hblk.lt
          obtain ⟨m0, m1, m2⟩ := hblk.cell3
          obtain ⟨v0, v1, v2⟩ := hv.cell3
          go_wp2_with fail
          have hsm : y * a + x + 1 ≤ 1048576 := by
            have h1 := Pl.cell_lt (w := a) (h := b) hltx hlt
            have h2 : b * a ≤ 64 * 64 := Nat.mul_le_mul hb ha
            omega
          have hsx : w.heap.size ≤ wr.heap.size := hbel.size
          go_region_law
            (first
              | (go_simp
                 go_at_fn f
                 refine (HC.out wr.drew hbel.drew).mono ?_
                 rintro e w2 ⟨rfl, hb2⟩
                 have hown2 := own_below hown.drew hb2
                 have hblk2 := hblk.drew.keep hb2
                 have cc2 := hblk2.cell 2
                 have cc2a := fun o => (hblk2.alloc o).cell 2
                 have hs2 : wr.heap.size ≤ w2.heap.size := hb2.size)
              | (refine step_app _ rfl (.tmp 22) (.tmp 28) 22 rfl w.heap.size 3 i0 (.int .i64 0) 8 Try.underlying22 hi hz0 hz1 hz2 rfl (by decide) (.slice A (y * a + x) cp) (y * a + x) _ rfl (hown2.alloc _) w2.heap.size (.int .i64 (F x y)) rfl (new_cell w2 _ _) rfl hsm (size_alloc_le (Nat.le_trans hsx hs2) _) ?_; intro g' cp' w3 hown3 hgr3; have hblk3 := (hblk2.alloc _).grown hgr3 (own_blk_ne hown2 hblk2 (by decide)); have hfz3 := hblk3.frozen 2; have cc3 := hblk3.cell 2)
              | fail)
          all_goals
            have hr2 := (hr.drew.keep hb2).alloc (.cells #[.int .i64 (F x y)] 3)
            have hv2 := (hv.drew.keep hb2).alloc (.cells #[.int .i64 (F x y)] 3)
            have hr3 := hr2.grown hgr3 (own_blk_ne (hown2.alloc (.cells #[.int .i64 (F x y)] 3)) hr2 (by decide))
            have hv3 := hv2.grown hgr3 (own_blk_ne (hown2.alloc (.cells #[.int .i64 (F x y)] 3)) hv2 (by decide))
            have hbel3 : Below w.heap.size w w3 := ((hbel.drew.trans (hb2.mono hbel.size)).alloc (Nat.le_trans hbel.size hs2) _).grown hgr3 (size_alloc_le (Nat.le_trans hbel.size hs2) _) (fun k hk => (hown2.lt k hk).1)
            have R1 := Lib.hid (hblk3.set_ 2 (.slice (some ⟨g', 0, none⟩) (y * a + x + 1) cp'))
            have R2 := Lib.hid (hr3.far (p := ⟨w.heap.size + 1 + 1, 2, none⟩) (by simp) (.slice (some ⟨g', 0, none⟩) (y * a + x + 1) cp'))
            have R5 := Lib.hid (hv3.far (p := ⟨w.heap.size + 1 + 1, 2, none⟩) (by simp; omega) (.slice (some ⟨g', 0, none⟩) (y * a + x + 1) cp'))
            have R3 := Lib.hid (own_far hown3 (p := ⟨w.heap.size + 1 + 1, 2, none⟩) (own_blk_ne hown3 hblk3 (by decide)) (.slice (some ⟨g', 0, none⟩) (y * a + x + 1) cp'))
            have R4 := Lib.hid (hbel3.setCell (p := ⟨w.heap.size + 1 + 1, 2, none⟩) (by simp; omega) (.slice (some ⟨g', 0, none⟩) (y * a + x + 1) cp'))
            clear hr hown hbel hblk hbs m0 m1 m2 hb2 hown2 hblk2 cc2 cc2a hown3 hgr3 hblk3 hfz3 cc3 hr2 hr3 hbel3 hv hv2 hv3 v0 v1 v2
            go_wp2_with fail
            go_roundw
            case rel => exact ⟨x + 1, cp', some ⟨g', 0, none⟩, by omega, by go_num, by simpa [Nat.add_assoc] using R1.out, R2.out, R5.out, by simpa [List.range_succ, Nat.add_assoc] using R3.out, R4.out⟩
            case measure => simp [intOf]; omega
        · have hxa : x = a := by omega
          subst hxa
          go_wp2_with fail
          go_roundw
          case rel => exact ⟨y + 1, cp, A, by omega, by go_num, by simpa [Nat.succ_mul] using hblk, hr, hv, by rw [Pl.tab_succ]; simpa [Nat.succ_mul] using hown, hbel⟩
          case measure => simp [intOf]; omega
    · have hyb : y = b := by omega
      subst hyb
      obtain ⟨c0, c1, c2⟩ := hblk.cell3
      obtain ⟨r0, r1, r2⟩ := hr.cell3
      obtain ⟨f0, f1, f2⟩ := hr.frozen3
      obtain ⟨q0, q1, q2⟩ := (hr.set3 (.int .i64 a) (.int .i64 y) (.slice A (y * a) cp)).cell3
      clear v0 v1 v2
      go_wp2_with fail
      refine bodyPost_ret (v := .agg #[.int .i64 a, .int .i64 y, .slice A (y * a) cp]) (by simp [results, Try.results28, go_sem, q0, q1, q2]) rfl ?_
      exact ⟨A, _, cp, rfl, own_set3 hown hr (by decide) _ _ _, below_set3 hbel (by omega) _ _ _⟩

/-! The closures -/
theorem front1_gives (a b Bg Bp Bq : Nat) (A Ap Aq : Option Addr) (c cp cq : Nat) (bs : List Bool) (p q : List Int) (w : World) (ha : a ≤ 64) (hb : b ≤ 64)
    (hg : Blk w Bg 25 #[.int .i64 a, .int .i64 b, .slice A (b * a) c]) (hp : Blk w Bp 22 #[.slice Ap a cp]) (hq : Blk w Bq 22 #[.slice Aq b cq])
    (hr : Rd w A (b * a) (bs.map Value.bool)) (hrp : Rd w Ap a (p.map (Value.int .i64))) (hrq : Rd w Aq b (q.map (Value.int .i64))) :
    GivesI 27 #[.pointer (some ⟨Bg, 0, none⟩), .pointer (some ⟨Bp, 0, none⟩), .pointer (some ⟨Bq, 0, none⟩)] a b (frontF a bs p q) w := by
  intro w' x y hbel hx hy
  show Calls _ _ _ _ fun e w'' => e = .returned (.int .i64 (frontF a bs p q x y)) ∧ Below w'.heap.size w' w''
  have hg' := hg.keep hbel
  have hp' := hp.keep hbel
  have hq' := hq.keep hbel
  have hr' := hr.below hbel
  have hrp' := hrp.below hbel
  have hrq' := hrq.below hbel
  have lb : bs.length = b * a := by simpa using hr.len
  have lp : p.length = a := by simpa using hrp.len
  have lq : q.length = b := by simpa using hrq.len
  have hF : y * a + x < b * a := Pl.cell_lt hx hy
  obtain ⟨i0, i1⟩ := mul_bound (p := (y : Int)) (q := (a : Int)) (by omega) (by omega) (by omega) (by omega)
  obtain ⟨bl, o, rfl, hbl, hc⟩ := hr'.at_ (by omega)
  have hcell := cell_read lb hF hc
  obtain ⟨bp, op, rfl, hbp, hcp⟩ := hrp'.at_ (by omega)
  have hcellp := int_read lp hx hcp
  obtain ⟨bq, oq, rfl, hbq, hcq⟩ := hrq'.at_ (by omega)
  have hcellq := int_read lq hy hcq
  have hFF : Hid (frontF a bs p q x y = if bs.getD (y * a + x) false then p.getD x 0 else q.getD y 0) := rfl
  obtain ⟨c0, c1, c2⟩ := hg'.cell3
  have cp0 := hp'.cell 0
  have cq0 := hq'.cell 0
  generalize frontF a bs p q x y = r at *
  generalize p.getD x 0 = u at *
  generalize q.getD y 0 = v at *
  clear hg hp hq hr hrp hrq hg' hp' hq' hr' hrp' hrq' hc hcp hcq lb lp lq
  rcases Bool.eq_false_or_eq_true (bs.getD (y * a + x) false) with e | e
  all_goals
    rw [e] at hcell hFF
    clear e
    go_enter Try.func27, Try.ntmps27
    go_wp2
    go_ret
    exact ⟨ret_i hFF.out.symm, Below.refl _ _⟩
end Go.Proofs.Ytmajmbfbnchbfaa
