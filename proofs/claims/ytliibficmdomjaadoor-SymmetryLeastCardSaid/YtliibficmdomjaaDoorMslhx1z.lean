/- Parts of the proof, in their order. -/
import Derived.Test.YtliibficmdomjaaDoorMg10z
import Derived.Test.YtliibficmdomjaaDoorMg3z
import Derived.Test.YtliibficmdomjaaDoorMg2z
import Derived.BigQuiet
import Derived.Outline
import Derived.BigRegion
import Derived.Deep.RegionHeld3
import Derived.Test.YtliibficmdomjaaDoorMg5z
import Derived.Handy
import Derived.Deep.DeepMust
import Derived.Deep.RegionLaw
import Derived.Shelf.Abstract
import Derived.Deep.AppendLies
import Derived.Deep.QuietTactic
import Derived.StillTailTactics
import Derived.Test.YtliibficmdomjaaDoorLaw7Kz
/- raddleref07.Before: whether a grid comes before another one as a form. -/
namespace Go.Proofs.YtliibficmdomjaaDoor
open Go.RowKit

set_option maxHeartbeats 2000000 in
theorem rbefore_any (f g : Gd) (A A' : Option Addr) (n c n' c' : Nat) (w : World) (hr : Rd w A n (f.bits.map Value.bool)) (hr' : Rd w A' n' (g.bits.map Value.bool)) (hf : chkG f = 0) (hg : chkG g = 0) :
    Calls Tryd.prog 23 #[.agg #[.int .i64 f.w, .int .i64 f.h, .slice A n c], .agg #[.int .i64 g.w, .int .i64 g.h, .slice A' n' c']] w fun e w' => e = .returned (.bool (beforeG f g)) ∧ Below w.heap.size w w' := by
  obtain ⟨a, b, e1, e2, ha1, ha, hb1, hb, e3⟩ := chk_zero hf
  obtain ⟨a', b', f1, f2, ha1', ha', hb1', hb', f3⟩ := chk_zero hg
  obtain ⟨W, H, bs⟩ := f
  obtain ⟨W', H', bs'⟩ := g
  simp only at e1 e2 e3 f1 f2 f3 hr hr' ⊢
  subst e1 e2 f1 f2
  have hl : bs.length = n := by simpa using hr.len
  have hl' : bs'.length = n' := by simpa using hr'.len
  have S0 := ((((St.start w).addRd hr).addRd hr').box #[.int .i64 a, .int .i64 b, .slice A n c] 24).box #[.int .i64 a', .int .i64 b', .slice A' n' c'] 24
  simp only [size_alloc1, List.nil_append, List.cons_append] at S0
  obtain ⟨c0, c1, c2⟩ := (S0.blk 2 rfl).cell3
  obtain ⟨d0, d1, d2⟩ := (S0.blk 3 rfl).cell3
  clear hf hg hr hr'
  by_cases h1 : a = a'
  · subst h1
    by_cases h2 : b = b'
    · subst h2
      have hR : beforeG ⟨a, b, bs⟩ ⟨a, b, bs'⟩ = lexB bs bs' := by unfold beforeG; rw [if_neg (by simp), if_neg (by simp)]
      have hn : n' = n := by omega
      subst hn
      have HE := Lib.hid (fun i p q h => lexB_at (ps := bs) (qs := bs') (i := i) (p := p) (q := q) h)
      have HA := Lib.hid (fun h => lexB_all (ps := bs) (qs := bs') h)
      have HL := Lib.hid hl
      have HL' := Lib.hid hl'
      rw [hR]
      clear hR hl hl' f3
      generalize lexB bs bs' = R at *
      have hn1 : n' ≤ 4096 := by
        have := HL.out
        have k : b * a ≤ 64 * 64 := Nat.mul_le_mul hb ha
        omega
      go_enter Tryd.func23, Tryd.ntmps23
      go_wp2_with fail
      go_loopw [5] (fun i wr => ∃ x : Nat, x ≤ n' ∧ i = .int .i64 x ∧ (∀ j, j < x → bs[j]? = bs'[j]?) ∧
          St w [.rd A n' (bs.map Value.bool), .rd A' n' (bs'.map Value.bool), .blk w.heap.size 24 #[.int .i64 a, .int .i64 b, .slice A n' c], .blk (w.heap.size + 1) 24 #[.int .i64 a, .int .i64 b, .slice A' n' c']] wr) (fun i _ => n' - (intOf i).toNat)
      case atStart => exact ⟨0, Nat.zero_le _, rfl, fun _ h => absurd h (Nat.not_lt_zero _), S0⟩
      case round =>
        clear S0 c0 c1 c2 d0 d1 d2
        obtain ⟨x, hx, rfl, hall, S⟩ := hrel
        have HX := Lib.hid hall
        clear hall
        obtain ⟨c0, c1, c2⟩ := (S.blk 2 rfl).cell3
        obtain ⟨d0, d1, d2⟩ := (S.blk 3 rfl).cell3
        by_cases hlt : x < n'
        · obtain ⟨b1, o1, hA1, _, h1⟩ := (S.rd 0 rfl).at_ (by omega)
          obtain ⟨b2, o2, hA2, _, h2⟩ := (S.rd 1 rfl).at_ (by omega)
          have k1 : bs[x]? = some (bs.getD x false) := by have := HL.out; rw [List.getElem?_eq_getElem (by omega)]; simp [List.getD, show x < bs.length by omega]
          have k2 : bs'[x]? = some (bs'.getD x false) := by have := HL'.out; rw [List.getElem?_eq_getElem (by omega)]; simp [List.getD, show x < bs'.length by omega]
          have g1 := h1 x (.bool (bs.getD x false)) (by rw [List.getElem?_map, k1]; rfl)
          have g2 := h2 x (.bool (bs'.getD x false)) (by rw [List.getElem?_map, k2]; rfl)
          generalize bs.getD x false = p at *
          generalize bs'.getD x false = q at *
          have K1 := Lib.hid k1
          have K2 := Lib.hid k2
          clear h1 h2 k1 k2
          subst hA1 hA2
          have hx1 : (0 : Int) ≤ (x : Int) := by omega
          have hx2 : (x : Int) < (n' : Int) := by omega
          cases p <;> cases q
          · go_wp2_with fail
            go_region_held3 (fun w' => (w'.cell? ⟨w.heap.size, 2, none⟩ = some (.slice (some ⟨b1, o1, none⟩) n' c) ∧ w'.cell? ⟨w.heap.size + 1, 2, none⟩ = some (.slice (some ⟨b2, o2, none⟩) n' c')) ∧ w'.cell? ⟨b1, o1 + x, none⟩ = some (.bool false) ∧ w'.cell? ⟨b2, o2 + x, none⟩ = some (.bool false))
              (exact ⟨⟨c2, d2⟩, g1, g2⟩) (fail)
            go_wp2_with fail
            go_roundw
            case rel =>
              refine ⟨x + 1, by omega, by go_num, fun j hj => ?_, S.drew⟩
              rcases Nat.lt_or_ge j x with h | h
              · exact HX.out j h
              · obtain rfl : j = x := by omega
                rw [K1.out, K2.out]
            case measure => simp [intOf]; omega
          · have hq : Hid (R = true) := Lib.hid (HE.out x false true HX.out K1.out K2.out (by decide))
            go_wp2_with fail
            go_region_held3 (fun w' => (w'.cell? ⟨w.heap.size, 2, none⟩ = some (.slice (some ⟨b1, o1, none⟩) n' c) ∧ w'.cell? ⟨w.heap.size + 1, 2, none⟩ = some (.slice (some ⟨b2, o2, none⟩) n' c')) ∧ w'.cell? ⟨b1, o1 + x, none⟩ = some (.bool false) ∧ w'.cell? ⟨b2, o2 + x, none⟩ = some (.bool true))
              (exact ⟨⟨c2, d2⟩, g1, g2⟩) (fail)
            go_wp2_with fail
            go_ret
            exact ⟨ret_b2' hq.out.symm, S.drew.below⟩
          · have hq : Hid (R = false) := Lib.hid (HE.out x true false HX.out K1.out K2.out (by decide))
            go_wp2_with fail
            go_region_held3 (fun w' => (w'.cell? ⟨w.heap.size, 2, none⟩ = some (.slice (some ⟨b1, o1, none⟩) n' c) ∧ w'.cell? ⟨w.heap.size + 1, 2, none⟩ = some (.slice (some ⟨b2, o2, none⟩) n' c')) ∧ w'.cell? ⟨b1, o1 + x, none⟩ = some (.bool true) ∧ w'.cell? ⟨b2, o2 + x, none⟩ = some (.bool false))
              (exact ⟨⟨c2, d2⟩, g1, g2⟩) (fail)
            go_wp2_with fail
            go_ret
            exact ⟨ret_b2' hq.out.symm, S.drew.below⟩
          · go_wp2_with fail
            go_region_held3 (fun w' => (w'.cell? ⟨w.heap.size, 2, none⟩ = some (.slice (some ⟨b1, o1, none⟩) n' c) ∧ w'.cell? ⟨w.heap.size + 1, 2, none⟩ = some (.slice (some ⟨b2, o2, none⟩) n' c')) ∧ w'.cell? ⟨b1, o1 + x, none⟩ = some (.bool true) ∧ w'.cell? ⟨b2, o2 + x, none⟩ = some (.bool true))
              (exact ⟨⟨c2, d2⟩, g1, g2⟩) (fail)
            go_wp2_with fail
            go_roundw
            case rel =>
              refine ⟨x + 1, by omega, by go_num, fun j hj => ?_, S.drew⟩
              rcases Nat.lt_or_ge j x with h | h
              · exact HX.out j h
              · obtain rfl : j = x := by omega
                rw [K1.out, K2.out]
            case measure => simp [intOf]; omega
        · have hR : Hid (R = false) := Lib.hid (HA.out fun j hj => HX.out j (by have := HL.out; omega))
          go_wp2_with fail
          go_ret
          exact ⟨ret_b2' hR.out.symm, S.below⟩
    · have hR : beforeG ⟨a, b, bs⟩ ⟨a, b', bs'⟩ = decide (b < b') := by unfold beforeG; rw [if_neg (by simp), if_pos (show (b : Int) ≠ (b' : Int) by omega), decide_eq_decide]; show (b : Int) < (b' : Int) ↔ _; omega
      rw [hR]
      clear hR e3 f3 hl hl'
      go_enter Tryd.func23, Tryd.ntmps23
      go_wp2_with fail
      go_ret
      exact ⟨rfl, S0.below⟩
  · have hR : beforeG ⟨a, b, bs⟩ ⟨a', b', bs'⟩ = decide (a < a') := by unfold beforeG; rw [if_pos (show (a : Int) ≠ (a' : Int) by omega), decide_eq_decide]; show (a : Int) < (a' : Int) ↔ _; omega
    rw [hR]
    clear hR e3 f3 hl hl'
    go_enter Tryd.func23, Tryd.ntmps23
    go_wp2_with fail
    go_ret
    exact ⟨rfl, S0.below⟩
end Go.Proofs.YtliibficmdomjaaDoor
/- grid.build makes the table of a function value, row by row, in new memory; sides of at most 64. -/
namespace Go.Proofs.YtliibficmdomjaaDoor
open Go.RowKit

set_option maxHeartbeats 1600000 in
theorem build_any (f : FuncId) (caps : Array Value) (a b : Nat) (F : Nat → Nat → Bool) (w : World) (ha : a ≤ 64) (hb : b ≤ 64) (hE : ∀ (args : Array Value) (w : World), (callFunc f args).run Tryd.prog w = .ok (.enter f args) w) (hf : Gives f caps a b F w) :
    Calls Tryd.prog 42 #[.int .i64 a, .int .i64 b, .func (.func f) #[] caps] w fun e w' =>
      ∃ A c, e = .returned (.agg #[.int .i64 a, .int .i64 b, .slice A (b * a) c]) ∧ w'.ownsRow w.heap.size 4 1 (.slice A (b * a) c) (b * a) ((Pl.tab a b F).map Value.bool) ∧ Below w.heap.size w w' := by
  obtain ⟨i0, hi, hz0, hz1, hz2⟩ := info_parts Tryd.infoB
  have hm0 : 0 ≤ (a : Int) * (b : Int) := Int.mul_nonneg (by omega) (by omega)
  have hm1 : (a : Int) * (b : Int) ≤ 4096 := Int.mul_le_mul (c := 64) (d := 64) (by omega) (by omega) (by omega) (by omega)
  go_enter Tryd.func42, Tryd.ntmps42
  go_wp2_with (at_make; go_loud (refine wpList_make_own _ rfl _ _ 22 rfl (w.heap.size + 1) 4 i0 (.bool false) 1 Tryd.underlying22 hi hz0 hz1 _ _ _ (a * b) rfl rfl ?c1 ?c2 ?c3 ?c4 ?_))
  case c1 => exact (Int.natCast_mul a b).symm
  case c2 => rw [hz2]; have : ((a * b : Nat) : Int) ≤ 4096 := by rw [Int.natCast_mul]; exact hm1
             omega
  case c3 => have : ((a * b : Nat) : Int) ≤ 4096 := by rw [Int.natCast_mul]; exact hm1
             unfold maxLen; omega
  case c4 => simp
  intro w1 hown1 hg1
  have hb1 : Below w.heap.size w w1 := (((Below.refl _ _).alloc (Nat.le_refl _) _).grown hg1 (by simp) (fun _ h => by cases h))
  have hsz1 : w.heap.size < w1.heap.size := by have := hg1.size; simp at this; omega
  go_wp2_with fail
  have hr1 : Blk w1 w.heap.size 24 #[.int .i64 0, .int .i64 0, .slice none 0 0] := (Blk.new w _ _).grown hg1 (by simp)
  go_loopw [18] (fun i wr => ∃ (y g cp : Nat), y ≤ b ∧ i = .int .i64 y ∧ Blk wr w1.heap.size 24 #[.int .i64 a, .int .i64 b, .slice (some ⟨g, 0, none⟩) (y * a) cp] ∧
      Blk wr w.heap.size 24 #[.int .i64 0, .int .i64 0, .slice none 0 0] ∧
      wr.ownsRow (w.heap.size + 1) 4 1 (.slice (some ⟨g, 0, none⟩) (y * a) cp) (y * a) ((Pl.tab a y F).map Value.bool) ∧ Below w.heap.size w wr)
    (fun i _ => b - (intOf i).toNat)
  case atStart => exact ⟨0, w.heap.size + 1, a * b, Nat.zero_le _, rfl, by simpa using Blk.new _ _ _, hr1.alloc _, by simpa [Pl.tab_zero] using hown1.alloc _, hb1.alloc (by omega) _⟩
  case round =>
    obtain ⟨y, g, cp, hy, rfl, hblk, hr, hown, hbel⟩ := hrel
    by_cases hlt : y < b
    · go_wp2_with fail
      go_loopw [22] (fun i wr => ∃ (x g cp : Nat), x ≤ a ∧ i = .int .i64 x ∧ Blk wr w1.heap.size 24 #[.int .i64 a, .int .i64 b, .slice (some ⟨g, 0, none⟩) (y * a + x) cp] ∧
          Blk wr w.heap.size 24 #[.int .i64 0, .int .i64 0, .slice none 0 0] ∧
          wr.ownsRow (w.heap.size + 1) 4 1 (.slice (some ⟨g, 0, none⟩) (y * a + x) cp) (y * a + x) ((Pl.tab a y F ++ (List.range x).map fun x => F x y).map Value.bool) ∧ Below w.heap.size w wr)
        (fun i _ => a - (intOf i).toNat)
      case atStart => exact ⟨0, g, cp, Nat.zero_le _, rfl, hblk, hr, by simpa using hown, hbel⟩
      case round =>
        clear hblk hr hown hbel
        obtain ⟨x, g, cp, hx, rfl, hblk, hr, hown, hbel⟩ := hrel
        by_cases hltx : x < a
        · have HC := Lib.hid (fun W hB => hf W x y hB hltx hlt)
          clear hf
          have hbs := hblk.lt
          have c2 := hblk.cell 2
          simp only [List.getElem?_toArray, List.getElem?_cons_zero, List.getElem?_cons_succ] at c2
          go_wp2_with fail
          have hsm : y * a + x + 1 ≤ 1048576 := by
            have h1 := Pl.cell_lt (w := a) (h := b) hltx hlt
            have h2 : b * a ≤ 64 * 64 := Nat.mul_le_mul hb ha
            omega
          have hsx : w.heap.size + 1 ≤ wr.heap.size := by have := hbel.size; have := hr.lt; omega
          go_region_law
            (first
              | (go_simp
                 go_at_fn f
                 refine (HC.out wr.drew hbel.drew).mono ?_
                 rintro e w2 ⟨rfl, hb2⟩
                 have hown2 := own_below hown.drew hb2
                 have hblk2 := hblk.drew.keep hb2
                 have cc2 := hblk2.cell 2
                 have cc2a := fun o => (hblk2.alloc o).cell 2
                 have hs2 : wr.heap.size ≤ w2.heap.size := hb2.size)
              | (refine step_app _ rfl (.tmp 26) (.tmp 31) 22 rfl (w.heap.size + 1) 4 i0 (.bool false) 1 Tryd.underlying22 hi hz0 hz1 hz2 rfl (by decide) (.slice (some ⟨g, 0, none⟩) (y * a + x) cp) (y * a + x) _ rfl (hown2.alloc _) w2.heap.size (.bool (F x y)) rfl (new_cell w2 _ _) rfl hsm (size_alloc_le (Nat.le_trans hsx hs2) _) ?_; intro g' cp' w3 hown3 hgr3; have hblk3 := (hblk2.alloc _).grown hgr3 (own_blk_ne hown2 hblk2 (by decide)); have hfz3 := hblk3.frozen 2; have cc3 := hblk3.cell 2)
              | fail)
          all_goals
            have hr2 := (hr.drew.keep hb2).alloc (.cells #[.bool (F x y)] 4)
            have hr3 := hr2.grown hgr3 (own_blk_ne (hown2.alloc (.cells #[.bool (F x y)] 4)) hr2 (by decide))
            have hbel3 : Below w.heap.size w w3 := ((hbel.drew.trans (hb2.mono hbel.size)).alloc (Nat.le_trans hbel.size hs2) _).grown hgr3 (size_alloc_le (Nat.le_trans hbel.size hs2) _) (fun k hk => Nat.le_of_succ_le (hown2.lt k hk).1)
            have R1 := Lib.hid (hblk3.set_ 2 (.slice (some ⟨g', 0, none⟩) (y * a + x + 1) cp'))
            have R2 := Lib.hid (hr3.far (p := ⟨w1.heap.size, 2, none⟩) (Nat.ne_of_lt hsz1) (.slice (some ⟨g', 0, none⟩) (y * a + x + 1) cp'))
            have R3 := Lib.hid (own_far hown3 (p := ⟨w1.heap.size, 2, none⟩) (own_blk_ne hown3 hblk3 (by decide)) (.slice (some ⟨g', 0, none⟩) (y * a + x + 1) cp'))
            have R4 := Lib.hid (hbel3.setCell (p := ⟨w1.heap.size, 2, none⟩) (Nat.le_of_lt hsz1) (.slice (some ⟨g', 0, none⟩) (y * a + x + 1) cp'))
            clear hr hown hbel hblk hbs c2 hb2 hown2 hblk2 cc2 cc2a hown3 hgr3 hblk3 hfz3 cc3 hr2 hr3 hbel3
            go_wp2_with fail
            go_roundw
            case rel => exact ⟨x + 1, g', cp', by omega, by go_num, by simpa [Nat.add_assoc] using R1.out, R2.out, by simpa [List.range_succ, Nat.add_assoc] using R3.out, R4.out⟩
            case measure => simp [intOf]; omega
        · have hxa : x = a := by omega
          subst hxa
          go_wp2_with fail
          go_roundw
          case rel => exact ⟨y + 1, g, cp, by omega, by go_num, by simpa [Nat.succ_mul] using hblk, hr, by rw [Pl.tab_succ]; simpa [Nat.succ_mul] using hown, hbel⟩
          case measure => simp [intOf]; omega
    · have hyb : y = b := by omega
      subst hyb
      have c0 := hblk.cell 0
      have c1 := hblk.cell 1
      have c2 := hblk.cell 2
      have r0 := hr.cell 0
      have r1 := hr.cell 1
      have r2 := hr.cell 2
      have f0 := hr.frozen 0
      have f1 := hr.frozen 1
      have f2 := hr.frozen 2
      simp only [List.getElem?_toArray, List.getElem?_cons_zero, List.getElem?_cons_succ] at c0 c1 c2 r0 r1 r2
      have hq := ((hr.set_ 0 (.int .i64 a)).set_ 1 (.int .i64 y)).set_ 2 (.slice (some ⟨g, 0, none⟩) (y * a) cp)
      have q0 := hq.cell 0
      have q1 := hq.cell 1
      have q2 := hq.cell 2
      simp at q0 q1 q2
      clear hq
      go_wp2_with fail
      refine bodyPost_ret (v := .agg #[.int .i64 a, .int .i64 y, .slice (some ⟨g, 0, none⟩) (y * a) cp]) (by simp [results, Tryd.results42, go_sem, q0, q1, q2]) rfl ?_
      exact ⟨_, cp, rfl, by
        refine own_base (ownsRow_setCell_below (ownsRow_setCell_below (ownsRow_setCell_below hown (by simp) _) (by simp) _) (by simp) _) (by omega), ((hbel.setCell (by simp) _).setCell (by simp) _).setCell (by simp) _⟩
end Go.Proofs.YtliibficmdomjaaDoor
/- grid.around: the remainder of a step. -/
namespace Go.Proofs.YtliibficmdomjaaDoor
open Go.RowKit

theorem around_any (a n : Int) (w : World) (hn : 1 ≤ n) (hn2 : n ≤ 1000000) :
    Calls Tryd.prog 41 #[.int .i64 a, .int .i64 n] w fun e w' => e = .returned (.int .i64 (a % n)) ∧ w' = w := by
  have h1 := Int.tmod_lt_of_pos a (show 0 < n by omega)
  have h2 := Int.lt_tmod_of_pos a (show 0 < n by omega)
  have h3 := Pl.tmod_pos a n (by omega)
  have H3 := Lib.hid h3
  clear h3
  by_cases ht : a.tmod n < 0
  all_goals
    go_enter Tryd.func41, Tryd.ntmps41
    go_wp2
    go_ret
    exact ⟨ret_i (by have := H3.out; first | (rw [if_pos ht] at this; exact this) | (rw [if_neg (by omega)] at this; exact this)), rfl⟩

end Go.Proofs.YtliibficmdomjaaDoor
/- grid.Shift gives the plain result shiftG, in new memory, for any grid and steps. -/
namespace Go.Proofs.YtliibficmdomjaaDoor
open Go.RowKit

set_option maxRecDepth 100000 in
theorem shift1_gives (dx dy : Int) (Bx By a b Bg : Nat) (A : Option Addr) (c : Nat) (bs : List Bool) (w : World) (ha : a ≤ 64) (hb : b ≤ 64) (hdx : 0 ≤ dx) (hdx2 : dx < a) (hdy : 0 ≤ dy) (hdy2 : dy < b)
    (hg : Blk w Bg 24 #[.int .i64 a, .int .i64 b, .slice A (b * a) c]) (hr : Rd w A (b * a) (bs.map Value.bool)) (hbx : Blk w Bx 3 #[.int .i64 dx]) (hby : Blk w By 3 #[.int .i64 dy]) :
    Gives 43 #[.pointer (some ⟨Bg, 0, none⟩), .pointer (some ⟨By, 0, none⟩), .pointer (some ⟨Bx, 0, none⟩)] a b (fun x y => bs.getD ((((y : Int) - dy) % (b : Int)).toNat * a + (((x : Int) - dx) % (a : Int)).toNat) false) w := by
  intro w' x y hbel hx hy
  show Calls _ _ _ _ fun e w'' => e = .returned (.bool (bs.getD ((((y : Int) - dy) % (b : Int)).toNat * a + (((x : Int) - dx) % (a : Int)).toNat) false)) ∧ Below w'.heap.size w' w''
  have hg' := hg.keep hbel
  have hr' := hr.below hbel
  have hbs : bs.length = b * a := by simpa using hr.len
  have u1 := Int.emod_nonneg ((x : Int) - dx) (show (a : Int) ≠ 0 by omega)
  have u2 := Int.emod_lt_of_pos ((x : Int) - dx) (show 0 < (a : Int) by omega)
  have v1 := Int.emod_nonneg ((y : Int) - dy) (show (b : Int) ≠ 0 by omega)
  have v2 := Int.emod_lt_of_pos ((y : Int) - dy) (show 0 < (b : Int) by omega)
  have hu : ((x : Int) - dx) % (a : Int) = (((((x : Int) - dx) % (a : Int)).toNat : Nat) : Int) := by omega
  have hv : ((y : Int) - dy) % (b : Int) = (((((y : Int) - dy) % (b : Int)).toNat : Nat) : Int) := by omega
  have hu2 : (((x : Int) - dx) % (a : Int)).toNat < a := by omega
  have hv2 : (((y : Int) - dy) % (b : Int)).toNat < b := by omega
  generalize (((x : Int) - dx) % (a : Int)).toNat = zx at *
  generalize (((y : Int) - dy) % (b : Int)).toNat = zy at *
  clear u1 u2 v1 v2
  have hlt : zy * a + zx < b * a := Pl.cell_lt hu2 hv2
  obtain ⟨i0, i1⟩ := mul_bound (p := (zy : Int)) (q := (a : Int)) (by omega) (by omega) (by omega) (by omega)
  obtain ⟨bl, o, rfl, hbl, hc⟩ := hr'.at_ (by omega)
  have hcell := cell_read hbs hlt hc
  obtain ⟨c0, c1, c2⟩ := hg'.cell3
  have cx := (hbx.keep hbel).cell 0
  have cy := (hby.keep hbel).cell 0
  clear hg hr hg' hr' hc hbs hbx hby
  go_enter Tryd.func43, Tryd.ntmps43
  go_wp2_with fail
  go_quiet ((go_at_call 41; exact Calls.quiet_of_same (around_any _ _ _ (by omega) (by omega))))
  go_wp2
  go_ret
  exact ⟨rfl, below_drewN (Below.refl _ _) _⟩

set_option maxHeartbeats 1000000 in
set_option maxRecDepth 100000 in
theorem shift_any (g : Gd) (dx dy : Int) (A : Option Addr) (n c : Nat) (w : World) (hr : Rd w A n (g.bits.map Value.bool)) :
    Calls Tryd.prog 22 #[.agg #[.int .i64 g.w, .int .i64 g.h, .slice A n c], .int .i64 dx, .int .i64 dy] w (RetG (shiftG g dx dy) w) := by
  obtain ⟨W, H, bs⟩ := g
  simp only at hr ⊢
  have hn : bs.length = n := by simpa using hr.len
  have hG0 : Blk ((((w.alloc (.cells #[.int .i64 W, .int .i64 H, .slice A n c] 24)).alloc (.cells #[.int .i64 dx] 3)).alloc (.cells #[.int .i64 dy] 3)).alloc (.cells #[.int .i64 0, .int .i64 0, .slice none 0 0] 24)) (w.heap.size) 24 #[.int .i64 W, .int .i64 H, .slice A n c] := by simpa using (((Blk.new w 24 #[.int .i64 W, .int .i64 H, .slice A n c]).alloc (.cells #[.int .i64 dx] 3)).alloc (.cells #[.int .i64 dy] 3)).alloc (.cells #[.int .i64 0, .int .i64 0, .slice none 0 0] 24)
  have hX0 : Blk ((((w.alloc (.cells #[.int .i64 W, .int .i64 H, .slice A n c] 24)).alloc (.cells #[.int .i64 dx] 3)).alloc (.cells #[.int .i64 dy] 3)).alloc (.cells #[.int .i64 0, .int .i64 0, .slice none 0 0] 24)) (w.heap.size + 1) 3 #[.int .i64 dx] := by simpa using ((Blk.new (w.alloc (.cells #[.int .i64 W, .int .i64 H, .slice A n c] 24)) 3 #[.int .i64 dx]).alloc (.cells #[.int .i64 dy] 3)).alloc (.cells #[.int .i64 0, .int .i64 0, .slice none 0 0] 24)
  have hY0 : Blk ((((w.alloc (.cells #[.int .i64 W, .int .i64 H, .slice A n c] 24)).alloc (.cells #[.int .i64 dx] 3)).alloc (.cells #[.int .i64 dy] 3)).alloc (.cells #[.int .i64 0, .int .i64 0, .slice none 0 0] 24)) (w.heap.size + 1 + 1) 3 #[.int .i64 dy] := by simpa using (Blk.new ((w.alloc (.cells #[.int .i64 W, .int .i64 H, .slice A n c] 24)).alloc (.cells #[.int .i64 dx] 3)) 3 #[.int .i64 dy]).alloc (.cells #[.int .i64 0, .int .i64 0, .slice none 0 0] 24)
  have hR0 : Blk ((((w.alloc (.cells #[.int .i64 W, .int .i64 H, .slice A n c] 24)).alloc (.cells #[.int .i64 dx] 3)).alloc (.cells #[.int .i64 dy] 3)).alloc (.cells #[.int .i64 0, .int .i64 0, .slice none 0 0] 24)) (w.heap.size + 1 + 1 + 1) 24 #[.int .i64 0, .int .i64 0, .slice none 0 0] := by simpa using Blk.new (((w.alloc (.cells #[.int .i64 W, .int .i64 H, .slice A n c] 24)).alloc (.cells #[.int .i64 dx] 3)).alloc (.cells #[.int .i64 dy] 3)) 24 #[.int .i64 0, .int .i64 0, .slice none 0 0]
  have hB0 : Below w.heap.size w ((((w.alloc (.cells #[.int .i64 W, .int .i64 H, .slice A n c] 24)).alloc (.cells #[.int .i64 dx] 3)).alloc (.cells #[.int .i64 dy] 3)).alloc (.cells #[.int .i64 0, .int .i64 0, .slice none 0 0] 24)) := ((((Below.refl w.heap.size w).alloc (Nat.le_refl _) (.cells #[.int .i64 W, .int .i64 H, .slice A n c] 24)).alloc (by simp) (.cells #[.int .i64 dx] 3)).alloc (by simp; omega) (.cells #[.int .i64 dy] 3)).alloc (by simp; omega) (.cells #[.int .i64 0, .int .i64 0, .slice none 0 0] 24)
  by_cases hc : chk W H n = 0
  · obtain ⟨a, b, rfl, rfl, ha1, ha, hbb, hb, rfl⟩ := chk_zero hc
    have hcb : (chk (a : Int) (b : Int) (b * a) != 0) = false := by simpa using hc
    have HS := Lib.hid (fun k => withChk_ok (bs := bs) (a := a) (b := b) (k := k) (by rw [hn]; exact hc))
    clear hc
    have HN := Lib.hid hn; clear hn
    have ha0 : ¬ (a : Int) = 0 := by omega
    have hb0 : ¬ (b : Int) = 0 := by omega
    have hP : shiftG ⟨a, b, bs⟩ dx dy = tabG a b fun x y => bs.getD ((((y : Int) - dy % (b : Int)) % (b : Int)).toNat * a + (((x : Int) - dx % (a : Int)) % (a : Int)).toNat) false := by
      refine (HS.out _).trans ?_
      simp only [Int.sub_emod_emod]
    have HT := Lib.hid hP
    clear hP
    have u1 := Int.emod_nonneg dx (show (a : Int) ≠ 0 by omega)
    have u2 := Int.emod_lt_of_pos dx (show 0 < (a : Int) by omega)
    have v1 := Int.emod_nonneg dy (show (b : Int) ≠ 0 by omega)
    have v2 := Int.emod_lt_of_pos dy (show 0 < (b : Int) by omega)
    have HC : Hid (shiftG ⟨a, b, bs⟩ dx dy = (⟨((a : Nat) : Int), ((b : Nat) : Int), Pl.tab (a) (b) fun x y => bs.getD ((((y : Int) - dy % (b : Int)) % (b : Int)).toNat * a + (((x : Int) - dx % (a : Int)) % (a : Int)).toNat) false⟩, 0)) := by
      exact HT.out
    have hE := Proofs.enters_of Tryd.func43 (by kernel_rfl) rfl
    go_enter Tryd.func22, Tryd.ntmps22
    go_wp2_with fail
    refine (check_any _ _ _ _ _ _).mono ?_
    rintro e w1 ⟨rfl, hb1⟩
    have hG1 := hG0.keep hb1
    have hX1 := hX0.keep hb1
    have hY1 := hY0.keep hb1
    have hR1 := hR0.keep hb1
    have hB1 := below_then hB0 hb1
    have hr1 := hr.below hB1
    obtain ⟨c0, c1, c2⟩ := hG1.cell3
    have ccX := hX1.cell 0
    have ccY := hY1.cell 0
    have fX := hX1.frozen 0
    have fY := hY1.frozen 0
    have hG3 := (hG1.far (p := ⟨w.heap.size + 1, 0, none⟩) (by simp; try omega) (.int .i64 (dx % (a : Int)))).far (p := ⟨w.heap.size + 1 + 1, 0, none⟩) (by simp; try omega) (.int .i64 (dy % (b : Int)))
    have hR3 := (hR1.far (p := ⟨w.heap.size + 1, 0, none⟩) (by simp; try omega) (.int .i64 (dx % (a : Int)))).far (p := ⟨w.heap.size + 1 + 1, 0, none⟩) (by simp; try omega) (.int .i64 (dy % (b : Int)))
    have hX3 := (hX1.set_ 0 (.int .i64 (dx % (a : Int)))).far (p := ⟨w.heap.size + 1 + 1, 0, none⟩) (by simp; try omega) (.int .i64 (dy % (b : Int)))
    have hY3 := (hY1.far (p := ⟨w.heap.size + 1, 0, none⟩) (by simp; try omega) (.int .i64 (dx % (a : Int)))).set_ 0 (.int .i64 (dy % (b : Int)))
    simp only [List.setIfInBounds_toArray, List.set_cons_zero] at hX3 hY3
    have hB3 := (hB1.setCell (p := ⟨w.heap.size + 1, 0, none⟩) (by simp; try omega) (.int .i64 (dx % (a : Int)))).setCell (p := ⟨w.heap.size + 1 + 1, 0, none⟩) (by simp; try omega) (.int .i64 (dy % (b : Int)))
    have hr3 := hr1.only (((Only.refl [w.heap.size + 1, w.heap.size + 1 + 1] w1).set (p := ⟨w.heap.size + 1, 0, none⟩) (by simp; try omega) (.int .i64 (dx % (a : Int)))).set (p := ⟨w.heap.size + 1 + 1, 0, none⟩) (by simp; try omega) (.int .i64 (dy % (b : Int)))) (fun q o h1 h2 hm => by have := hr.lt q o h1 h2; simp at hm; omega)
    have HX3 := Lib.hid hX3
    clear hG1 hX1 hY1 hR1 hr1 hX3
    go_wp2_with fail
    go_still_tail 8, (by kernel_rfl)
    still_call (around_any dx (a : Int) _ (by omega) (by omega))
    repeat still_step
    still_call (around_any dy (b : Int) _ (by omega) (by omega))
    refine wpStill_nil ?_
    show wpList _ _ _ _ _ w1.drew
    all_goals
      go_wp2_with fail
      clear ccX ccY fX fY
      have d0 := (hG3.drew).cell 0
      have d1 := (hG3.drew).cell 1
      go_wp2_with fail
      refine (build_any 43 _ a b _ _ ha hb hE (shift1_gives _ _ _ _ a b _ A c bs _ ha hb u1 u2 v1 v2 hG3.drew hr3.drew HX3.out.drew hY3.drew)).mono ?_
      rintro e w2 ⟨A2, cc, rfl, hown2, hb2⟩
      clear c0 c1 c2 d0 d1
      have hR2 := hR3.drew.keep hb2
      obtain ⟨r0, r1, r2⟩ := hR2.cell3
      obtain ⟨f0, f1, f2⟩ := hR2.frozen3
      obtain ⟨q0, q1, q2⟩ := (hR2.set3 (.int .i64 ((a : Nat) : Int)) (.int .i64 ((b : Nat) : Int)) (.slice A2 ((b) * (a)) cc)).cell3
      go_wp2_with fail
      refine bodyPost_ret (v := .tuple #[.agg #[.int .i64 ((a : Nat) : Int), .int .i64 ((b : Nat) : Int), .slice A2 ((b) * (a)) cc], .int .i64 0]) (by simp [results, Tryd.results22, go_sem, q0, q1, q2]) rfl ?_
      refine ⟨A2, (b) * (a), cc, by rw [HC.out], ?_, below_set3 (below_then hB3.drew hb2) (by omega) _ _ _⟩
      rw [HC.out]
      exact own_set3 (own_base hown2 hB3.drew.size) hR2 (by decide) _ _ _
  · have hcb : (chk W H n != 0) = true := by simpa using hc
    have HC : Hid (shiftG ⟨W, H, bs⟩ dx dy = (Gd.zero, chk W H n)) := by
      have := withChk_bad (g := ⟨W, H, bs⟩) (by unfold chkG; simp only [hn]; exact hc)
      unfold chkG at this
      simp only [hn] at this
      exact this _
    clear hc hn
    go_enter Tryd.func22, Tryd.ntmps22
    go_wp2_with fail
    refine (check_any _ _ _ _ _ _).mono ?_
    rintro e w1 ⟨rfl, hb1⟩
    have hR1 := hR0.keep hb1
    have hB1 := below_then hB0 hb1
    obtain ⟨r0, r1, r2⟩ := hR1.cell3
    obtain ⟨f0, f1, f2⟩ := hR1.frozen3
    obtain ⟨q0, q1, q2⟩ := (hR1.set3 (.int .i64 0) (.int .i64 0) (.slice none 0 0)).cell3
    go_wp2_with fail
    refine bodyPost_ret (v := .tuple #[.agg #[.int .i64 0, .int .i64 0, .slice none 0 0], .int .i64 (chk W H n)]) (by simp [results, Tryd.results22, go_sem, q0, q1, q2]) rfl ?_
    exact bad_ret HC.out (below_set3 hB1 (by omega) _ _ _)

end Go.Proofs.YtliibficmdomjaaDoor
/- The law SymmetryLeast, walked: it answers true and turns nothing that was there, for any grid, operation and step. -/
namespace Go.Proofs.YtliibficmdomjaaDoor
open Go.RowKit

theorem shift_plm {g : Gd} (hg : chkG g = 0) (dx dy : Int) : ∃ d : Gd, shiftG g dx dy = (d, 0) ∧ chkG d = 0 ∧ d.w = g.w ∧ d.h = g.h ∧ PlM g d := by
  obtain ⟨a, b, e1, e2, ha1, ha, hb1, hb, hl⟩ := chkG_sides hg
  obtain ⟨W, H, bs⟩ := g
  simp only at e1 e2 hl
  subst e1 e2
  refine ⟨_, shift_ok hg dx dy, ?_, rfl, rfl, ?_⟩
  · unfold shiL1
    exact tabD_chk ha1 hb1 ha hb
  · refine ⟨dx, dy, ?_⟩
    simp only [Int.toNat_natCast]
    exact shift_meets ha1 hb1 dx dy
theorem shift_to {g r : Gd} {dx dy : Int} (h : shiftG g dx dy = (r, 0)) (A : Option Addr) (n c : Nat) (w : World) (hr : Rd w A n (g.bits.map Value.bool)) : Calls Tryd.prog 22 #[.agg #[.int .i64 g.w, .int .i64 g.h, .slice A n c], .int .i64 dx, .int .i64 dy] w (RetG (r, 0) w) := by
  rw [← h]
  exact shift_any g dx dy A n c w hr
theorem rect_tight {a : Gd} (h : Tight a) (A : Option Addr) (n c : Nat) (w : World) (hr : Rd w A n (a.bits.map Value.bool)) (hc : n ≤ c) :
    Calls Tryd.prog 21 #[.agg #[.int .i64 a.w, .int .i64 a.h, .slice A n c]] w fun e w' => e = .returned (.tuple #[.int .i64 a.w, .int .i64 a.h, .int .i64 0]) ∧ Below w.heap.size w w' := by
  have k := rect_any a A n c w hr hc
  have e : rectG a = ((a.w, a.h), 0) := by
    have e2 : rectG a = (((gU a : Int), (gV a : Int)), 0) := by unfold rectG; rw [if_pos h.chk_]; rfl
    rw [e2, ← h.w_, ← h.h_]
  rw [e] at k
  exact k
theorem valid_least {g a : Gd} (hv : valid7B g = true) (hs : startG a = 0) (h1 : a.bits.length ≤ g.bits.length) (h2 : a.w.toNat ≤ max g.w.toNat g.h.toNat) (h3 : a.h.toNat ≤ max g.w.toNat g.h.toNat) : valid7B a = true := by
  unfold valid7B at *
  rw [decide_eq_true_eq] at *
  obtain ⟨k0, k1, k2, k3⟩ := hv
  obtain ⟨x, y, e1, e2, _, _, _, _, hl⟩ := chkG_sides (startG_zero hs).1
  obtain ⟨x', y', f1, f2, _, _, _, _, hl'⟩ := chkG_sides (startG_zero k0).1
  rw [f1] at k1 k3 h2 h3
  rw [f2] at k2 k3 h2 h3
  rw [e1] at h2 ⊢
  rw [e2] at h3 ⊢
  simp only [Int.toNat_natCast] at h2 h3
  have q1 : (x : Int) * (y : Int) = ((y * x : Nat) : Int) := by rw [Int.natCast_mul, Int.mul_comm]
  have q2 : (x' : Int) * (y' : Int) = ((y' * x' : Nat) : Int) := by rw [Int.natCast_mul, Int.mul_comm]
  rw [q2] at k3
  refine ⟨hs, by omega, by omega, ?_⟩
  rw [q1]
  omega
theorem tight_of {a s : Gd} (h : Tight a) (hs : chkG s = 0) (hw : s.w = a.w) (hh : s.h = a.h) (hm : PlM a s) : Tight s := by
  obtain ⟨e1, e2⟩ := PlM.rec_ h.chk_ hs hm
  exact ⟨hs, by rw [hw, h.w_, e1], by rw [hh, h.h_, e2]⟩

set_option linter.unusedVariables false in
set_option maxHeartbeats 4000000 in
set_option maxRecDepth 100000 in
theorem lst7_off_0 (g : Gd) (x dx dy : Int) (A0 : Option Addr) (n0 c0 : Nat) (w : World) (hr : Rd w A0 n0 (g.bits.map Value.bool)) (hl : g.bits.length = n0)  (hv : valid7B g = false) :
    Calls Tryd.prog 6 #[.agg #[.int .i64 g.w, .int .i64 g.h, .slice A0 n0 c0], .int .i64 x, .int .i64 dx, .int .i64 dy] w fun e w' => e = .returned (.bool true) ∧ Below w.heap.size w w' := by
  have KA := Lib.hid (fun W => alive_any W)
  have K0 := Lib.hid (fun W => valid7_to g hv A0 n0 c0 hl W)
  clear hv
  have S0 := ((St.start w).addRd hr).box #[.int .i64 g.w, .int .i64 g.h, .slice A0 n0 c0] 24
  simp only [List.nil_append, List.cons_append] at S0
  go_enter Tryd.func6, Tryd.ntmps6
  obtain ⟨ca0, ca1, ca2⟩ := (S0.blk 1 rfl).cell3
  go_wp2_with fail
  refine (K0.out _).mono ?_
  rintro e w1 ⟨rfl, hb1⟩
  have S1 := S0.keep hb1
  clear ca0 ca1 ca2
  go_wp2_with fail
  refine (KA.out _).mono ?_
  rintro e w2 ⟨rfl, hb2⟩
  have S2 := S1.keep hb2
  clear S1
  go_wp2_with fail
  go_ret
  exact ⟨rfl, S2.below⟩

set_option linter.unusedVariables false in
set_option maxHeartbeats 4000000 in
set_option maxRecDepth 100000 in
theorem lst7_off_1 (g : Gd) (x dx dy : Int) (A0 : Option Addr) (n0 c0 : Nat) (w : World) (hr : Rd w A0 n0 (g.bits.map Value.bool)) (hl : g.bits.length = n0) (hv : valid7B g = true) (h1 : decide (0 ≤ x ∧ x < 16) = false) :
    Calls Tryd.prog 6 #[.agg #[.int .i64 g.w, .int .i64 g.h, .slice A0 n0 c0], .int .i64 x, .int .i64 dx, .int .i64 dy] w fun e w' => e = .returned (.bool true) ∧ Below w.heap.size w w' := by
  have KA := Lib.hid (fun W => alive_any W)
  have K0 := Lib.hid (fun W => valid7_to g hv A0 n0 c0 hl W)
  have K1 := Lib.hid (fun W => isb_to x h1 W)
  clear hv h1
  have S0 := ((St.start w).addRd hr).box #[.int .i64 g.w, .int .i64 g.h, .slice A0 n0 c0] 24
  simp only [List.nil_append, List.cons_append] at S0
  go_enter Tryd.func6, Tryd.ntmps6
  obtain ⟨ca0, ca1, ca2⟩ := (S0.blk 1 rfl).cell3
  go_wp2_with fail
  refine (K0.out _).mono ?_
  rintro e w1 ⟨rfl, hb1⟩
  have S1 := S0.keep hb1
  clear ca0 ca1 ca2
  go_wp2_with fail
  refine (K1.out _).mono ?_
  rintro e w2 ⟨rfl, hb2⟩
  have S2 := S1.keep hb2
  clear S1
  go_wp2_with fail
  refine (KA.out _).mono ?_
  rintro e w3 ⟨rfl, hb3⟩
  have S3 := S2.keep hb3
  clear S2
  go_wp2_with fail
  go_ret
  exact ⟨rfl, S3.below⟩

theorem app_small {g : Gd} (h0 : startG g = 0) (m : Nat) : (appT g m).w ≤ 16 ∧ (appT g m).h ≤ 16 := by
  obtain ⟨hc, h1, h2⟩ := startG_zero h0
  obtain ⟨a, b, e1, e2, _⟩ := chkG_sides hc
  rw [e1] at h1
  rw [e2] at h2
  unfold appT appG appB
  rw [e1, e2]
  simp only [Int.toNat_natCast]
  cases m.testBit 2 <;> simp <;> omega
theorem small64 {a : Gd} (h : chkG a = 0) : a.w ≤ 64 ∧ a.h ≤ 64 := by
  obtain ⟨x, y, e1, e2, _, h1, _, h2, _⟩ := chkG_sides h
  rw [e1, e2]
  omega
theorem startw {a : Gd} (h : chkG a = 0) : 1 ≤ a.w ∧ 1 ≤ a.h := by
  obtain ⟨x, y, e1, e2, h1, _, h2, _, _⟩ := chkG_sides h
  rw [e1, e2]
  omega
theorem shift_before {a : Gd} (hT : Tight a) (hP : ∀ f, Tight f → PlM a f → beforeG f a = false) (px py : Int) : ∃ s : Gd, shiftG a px py = (s, 0) ∧ chkG s = 0 ∧ beforeG s a = false := by
  obtain ⟨d, ed, hcd, hdw, hdh, hPd⟩ := shift_plm hT.chk_ px py
  exact ⟨d, ed, hcd, hP d (tight_of hT hcd hdw hdh hPd) hPd⟩

set_option maxHeartbeats 4000000 in
set_option maxRecDepth 100000 in
theorem lst7_main (g : Gd) (m : Nat) (dx dy : Int) (A0 : Option Addr) (n0 c0 : Nat) (w : World) (hr : Rd w A0 n0 (g.bits.map Value.bool)) (hc : n0 ≤ c0) (hv : valid7B g = true) (hm : m < 16) :
    Calls Tryd.prog 6 #[.agg #[.int .i64 g.w, .int .i64 g.h, .slice A0 n0 c0], .int .i64 m, .int .i64 dx, .int .i64 dy] w fun e w' => e = .returned (.bool true) ∧ Below w.heap.size w w' := by
  have h0 : startG g = 0 := by have q := hv; unfold valid7B at q; rw [decide_eq_true_eq] at q; exact q.1
  have hl : g.bits.length = n0 := by simpa using hr.len
  have HV := Lib.hid (fun W => valid7_to g hv A0 n0 c0 hl W)
  have HI := Lib.hid (fun W => isb_to m (is_yes hm) W)
  obtain ⟨hcg, hg16, hg16'⟩ := startG_zero h0
  obtain ⟨a, nn, l, e1, hnn, hsa, hTa, hAa, hLa, e2, hAll, hPl, z1, z2, z3⟩ := least_facts h0
  have hva := valid_least hv hsa z1 z2 z3
  have za := chkG_small hTa.chk_
  have HLs := Lib.hid (fun A n c W h hc => least_to (o := (nn : Int)) g e1 rfl A n c W h hc)
  have HAl := Lib.hid (fun A A' n c n' c' W h h' hc' => alikes_to g a h0 hsa rfl A A' n c n' c' W h h' hc')
  have hlen := alk_len (g := g) (g' := a)
  have hL0 : (alkL g a).getD 0 0 = (nn : Int) := by rw [hLa]; rfl
  have hpos : 1 ≤ (alkL g a).length := by rw [hLa]; simp
  have HVa := Lib.hid (fun A n c (hl : a.bits.length = n) W => valid7_to a hva A n c hl W)
  have HRc := Lib.hid (fun A n c W h hc => rect_tight hTa A n c W h hc)
  have HLa := Lib.hid (fun A n c W h hc => least_to (o := 0) a e2 rfl A n c W h hc)
  have HAp := Lib.hid (fun A n c W h => apply_to g (m : Nat) (applyG_ok h0 hm) A n c W h)
  obtain ⟨d, ed, hcd, hdw, hdh, hPd⟩ := shift_plm (appT_chk hcg m) dx dy
  have HSh := Lib.hid (fun A n c W h => shift_to ed A n c W h)
  have hsd : startG d = 0 := by
    have hT := app_small h0 m
    exact startG_le hcd (by rw [hdw]; exact hT.1) (by rw [hdh]; exact hT.2)
  obtain ⟨ea, et⟩ := hAll d hsd m hm hPd
  obtain ⟨qd, eqd⟩ : ∃ q : Nat, leastG d = ((a, q), 0) := ⟨(leastG d).1.2, Prod.ext (Prod.ext ea rfl) et⟩
  have HLd := Lib.hid (fun A n c W h hc => least_to (o := (qd : Int)) d eqd rfl A n c W h hc)
  have HS := Lib.hid (fun A A2 n1 c1 n2 c2 W h h2 => same_self a za A A2 n1 c1 n2 c2 W h h2)
  have HLoop := Lib.hid (fun (px py : Int) => shift_before hTa hPl px py)
  have hca := hTa.chk_
  have hw64 : a.w ≤ 64 ∧ a.h ≤ 64 := small64 hca
  obtain ⟨hw64, hh64⟩ := hw64
  clear h0 hv hl hcg hg16 hg16' e1 hnn hsa hTa hAa hLa e2 hAll hPl z1 z2 z3 hva za ed hcd hdw hdh hPd hsd ea et eqd
  generalize hLL : alkL g a = L at *
  clear hLL
  generalize appT g m = gx at *
  have S0 := ((St.start w).addRd hr).box #[.int .i64 g.w, .int .i64 g.h, .slice A0 n0 c0] 24
  simp only [List.nil_append, List.cons_append] at S0
  clear hr
  go_enter Tryd.func6, Tryd.ntmps6
  obtain ⟨ca0, ca1, ca2⟩ := (S0.blk 1 rfl).cell3
  go_wp2_with fail
  refine (HV.out _).mono ?_
  rintro e w1 ⟨rfl, hb1⟩
  have S1 := S0.keep hb1
  clear ca0 ca1 ca2
  go_wp2_with fail
  refine (HI.out _).mono ?_
  rintro e w2 ⟨rfl, hb2⟩
  have S2 := S1.keep hb2
  clear S1
  obtain ⟨ca0, ca1, ca2⟩ := (S2.blk 1 rfl).cell3
  go_wp2_with fail
  refine (HLs.out _ _ _ _ (S2.rd 0 rfl) hc).mono ?_
  rintro e w3 ⟨A3, n3, cc3, rfl, hown3, hb3⟩
  try simp only at hown3 ⊢
  have hc3 := own_le hown3
  have S3 := ((S2.keep hb3).addRd (rd_of_own hown3)).box #[.int .i64 a.w, .int .i64 a.h, .slice A3 n3 cc3] 24
  simp only [List.nil_append, List.cons_append] at S3
  clear ca0 ca1 ca2 S2 hown3
  have hla : a.bits.length = n3 := by have := (S3.rd 2 rfl).len; simpa using this
  obtain ⟨ca0, ca1, ca2⟩ := (S3.blk 1 rfl).cell3
  obtain ⟨da0, da1, da2⟩ := (S3.blk 3 rfl).cell3
  go_wp2_with fail
  refine (HAl.out _ _ _ _ _ _ _ (S3.rd 0 rfl) (S3.rd 2 rfl) hc3).mono ?_
  rintro e w4 ⟨AL, nL, cL, rfl, hownL, hb4⟩
  have hnL : L.length = nL := by have := hownL.1; simpa using this
  have hcL := own_le hownL
  have S4 := (S3.keep hb4).addRd (rd_of_own hownL)
  simp only [List.nil_append, List.cons_append] at S4
  obtain ⟨gL, rfl, _, _, _⟩ := own_form hownL (by omega)
  clear S3 hownL
  clear ca0 ca1 ca2 da0 da1 da2
  have ce := cell_int (S4.rd 4 rfl) (k := 0) (by omega)
  rw [hL0] at ce
  simp only [Nat.add_zero] at ce
  rw [hnL] at hlen hpos
  have hz1 : ¬ (nL : Int) = 0 := by omega
  have hz2 : ¬ nL = 0 := by omega
  have hz3 : (0 : Int) < (nL : Int) := by omega
  clear hL0 hnL
  obtain ⟨ca0, ca1, ca2⟩ := (S4.blk 3 rfl).cell3
  go_wp2_with fail
  refine (HVa.out _ _ _ hla _).mono ?_
  rintro e w5 ⟨rfl, hb5⟩
  have S5 := S4.keep hb5
  clear ce ca0 ca1 ca2 S4
  obtain ⟨ca0, ca1, ca2⟩ := (S5.blk 3 rfl).cell3
  go_wp2_with fail
  refine (HRc.out _ _ _ _ (S5.rd 2 rfl) hc3).mono ?_
  rintro e w6 ⟨rfl, hb6⟩
  have S6 := S5.keep hb6
  clear ca0 ca1 ca2 S5
  obtain ⟨ca0, ca1, ca2⟩ := (S6.blk 3 rfl).cell3
  go_wp2_with fail
  refine (HLa.out _ _ _ _ (S6.rd 2 rfl) hc3).mono ?_
  rintro e w7 ⟨A7, n7, cc7, rfl, hown7, hb7⟩
  try simp only at hown7 ⊢
  have hc7 := own_le hown7
  have S7 := ((S6.keep hb7).addRd (rd_of_own hown7)).box #[.int .i64 a.w, .int .i64 a.h, .slice A7 n7 cc7] 24
  simp only [List.nil_append, List.cons_append] at S7
  clear ca0 ca1 ca2 S6 hown7
  obtain ⟨ca0, ca1, ca2⟩ := (S7.blk 1 rfl).cell3
  go_wp2_with fail
  refine (HAp.out _ _ _ _ (S7.rd 0 rfl)).mono ?_
  rintro e w8 ⟨A8, n8, cc8, rfl, hown8, hb8⟩
  try simp only at hown8 ⊢
  have hc8 := own_le hown8
  have S8 := ((S7.keep hb8).addRd (rd_of_own hown8)).box #[.int .i64 gx.w, .int .i64 gx.h, .slice A8 n8 cc8] 24
  simp only [List.nil_append, List.cons_append] at S8
  clear ca0 ca1 ca2 S7 hown8
  obtain ⟨ca0, ca1, ca2⟩ := (S8.blk 8 rfl).cell3
  go_wp2_with fail
  refine (HSh.out _ _ _ _ (S8.rd 7 rfl)).mono ?_
  rintro e w9 ⟨A9, n9, cc9, rfl, hown9, hb9⟩
  try simp only at hown9 ⊢
  have hc9 := own_le hown9
  have S9 := ((S8.keep hb9).addRd (rd_of_own hown9)).box #[.int .i64 d.w, .int .i64 d.h, .slice A9 n9 cc9] 24
  simp only [List.nil_append, List.cons_append] at S9
  clear ca0 ca1 ca2 S8 hown9
  obtain ⟨ca0, ca1, ca2⟩ := (S9.blk 10 rfl).cell3
  go_wp2_with fail
  refine (HLd.out _ _ _ _ (S9.rd 9 rfl) hc9).mono ?_
  rintro e w10 ⟨A10, n10, cc10, rfl, hown10, hb10⟩
  try simp only at hown10 ⊢
  have hc10 := own_le hown10
  have S10 := ((S9.keep hb10).addRd (rd_of_own hown10)).box #[.int .i64 a.w, .int .i64 a.h, .slice A10 n10 cc10] 24
  simp only [List.nil_append, List.cons_append] at S10
  clear ca0 ca1 ca2 S9 hown10
  obtain ⟨ca0, ca1, ca2⟩ := (S10.blk 6 rfl).cell3
  obtain ⟨da0, da1, da2⟩ := (S10.blk 3 rfl).cell3
  go_wp2_with fail
  refine (HS.out _ _ _ _ _ _ _ (S10.rd 5 rfl) (S10.rd 2 rfl)).mono ?_
  rintro e w11 ⟨rfl, hb11⟩
  have S11 := S10.keep hb11
  clear ca0 ca1 ca2 da0 da1 da2 S10
  obtain ⟨ca0, ca1, ca2⟩ := (S11.blk 12 rfl).cell3
  obtain ⟨da0, da1, da2⟩ := (S11.blk 3 rfl).cell3
  go_wp2_with fail
  refine (HS.out _ _ _ _ _ _ _ (S11.rd 11 rfl) (S11.rd 2 rfl)).mono ?_
  rintro e w12 ⟨rfl, hb12⟩
  have S12 := S11.keep hb12
  clear ca0 ca1 ca2 da0 da1 da2 S11
  go_wp2_with fail
  have SA := S12.sub (L' := [.rd A3 n3 (a.bits.map Value.bool), .blk w3.heap.size 24 #[.int .i64 a.w, .int .i64 a.h, .slice A3 n3 cc3]]) (by simp)
  clear S12
  go_loopw [27] (fun i wr => ∃ px : Nat, (px : Int) ≤ a.w ∧ i = .int .i64 px ∧ St w [.rd A3 n3 (a.bits.map Value.bool), .blk w3.heap.size 24 #[.int .i64 a.w, .int .i64 a.h, .slice A3 n3 cc3]] wr) (fun i _ => a.w.toNat - (intOf i).toNat)
  case atStart => exact ⟨0, by have := (startw hca).1; omega, rfl, SA⟩
  case round =>
    clear SA
    obtain ⟨px, hpx, rfl, S⟩ := hrel
    obtain ⟨da0, da1, da2⟩ := (S.blk 1 rfl).cell3
    by_cases hltx : (px : Int) < a.w
    · go_wp2_with fail
      clear da0 da1 da2
      go_loopw [28] (fun i wr => ∃ py : Nat, (py : Int) ≤ a.h ∧ i = .int .i64 py ∧ St w [.rd A3 n3 (a.bits.map Value.bool), .blk w3.heap.size 24 #[.int .i64 a.w, .int .i64 a.h, .slice A3 n3 cc3]] wr) (fun i _ => a.h.toNat - (intOf i).toNat)
      case atStart => exact ⟨0, by have := (startw hca).2; omega, rfl, S⟩
      case round =>
        clear S
        obtain ⟨py, hpy, rfl, S⟩ := hrel
        obtain ⟨da0, da1, da2⟩ := (S.blk 1 rfl).cell3
        by_cases hlty : (py : Int) < a.h
        · obtain ⟨sg, es, hcs, hbf⟩ := HLoop.out (px : Int) (py : Int)
          have HSs := Lib.hid (fun A n c W h => shift_to es A n c W h)
          have HBf := Lib.hid (fun A n c A' n' c' W h h' => rbefore_any sg a A A' n c n' c' W h h' hcs hca)
          rw [hbf] at HBf
          clear es hcs hbf
          go_wp2_with fail
          refine (HSs.out _ _ _ _ (S.rd 0 rfl)).mono ?_
          rintro e w40 ⟨A40, n40, cc40, rfl, hown40, hb40⟩
          have T1 := ((S.keep hb40).addRd (rd_of_own hown40)).box #[.int .i64 sg.w, .int .i64 sg.h, .slice A40 n40 cc40] 24
          simp only [List.nil_append, List.cons_append] at T1
          clear S da0 da1 da2 hown40 hb40
          obtain ⟨da0, da1, da2⟩ := (T1.blk 1 rfl).cell3
          obtain ⟨db0, db1, db2⟩ := (T1.blk 3 rfl).cell3
          go_wp2_with fail
          refine (HBf.out _ _ _ _ _ _ _ (T1.rd 2 rfl) (T1.rd 0 rfl)).mono ?_
          rintro e w41 ⟨rfl, hb41⟩
          have T2 := (T1.keep hb41).sub (L' := [.rd A3 n3 (a.bits.map Value.bool), .blk w3.heap.size 24 #[.int .i64 a.w, .int .i64 a.h, .slice A3 n3 cc3]]) (by simp)
          clear T1 da0 da1 da2 db0 db1 db2 hb41
          go_wp2_with fail
          go_roundw
          case rel => exact ⟨py + 1, by omega, by go_num, T2⟩
          case measure => simp [intOf]; omega
        · go_wp2_with fail
          go_roundw
          case rel => exact ⟨px + 1, by omega, by go_num, S⟩
          case measure => simp [intOf]; omega
    · go_wp2_with fail
      refine (alive_any _).mono ?_
      rintro e w40 ⟨rfl, hb40⟩
      go_wp2_with fail
      go_ret
      exact ⟨rfl, (S.keep hb40).below⟩

theorem lst7_walk (g : Gd) (x dx dy : Int) (A0 : Option Addr) (n0 c0 : Nat) (w : World) (hr : Rd w A0 n0 (g.bits.map Value.bool)) (hc : n0 ≤ c0) :
    Calls Tryd.prog 6 #[.agg #[.int .i64 g.w, .int .i64 g.h, .slice A0 n0 c0], .int .i64 x, .int .i64 dx, .int .i64 dy] w fun e w' => e = .returned (.bool true) ∧ Below w.heap.size w w' := by
  have hl : g.bits.length = n0 := by simpa using hr.len
  cases hv : valid7B g with
  | false => exact lst7_off_0 g x dx dy A0 n0 c0 w hr hl hv
  | true =>
    cases h1 : decide (0 ≤ x ∧ x < 16) with
    | false => exact lst7_off_1 g x dx dy A0 n0 c0 w hr hl hv h1
    | true =>
      rw [decide_eq_true_eq] at h1
      obtain ⟨m, rfl⟩ : ∃ m : Nat, x = (m : Int) := ⟨x.toNat, by omega⟩
      exact lst7_main g m dx dy A0 n0 c0 w hr hc hv (by omega)
end Go.Proofs.YtliibficmdomjaaDoor
