/- raddleref14.Turn gives the plain result turnI, in new memory, for any image. -/
import Derived.Test.YtpfonniepinjnaaITurn
import Derived.Test.YtpfonniepinjnaaImC
import Derived.Test.YtpfonniepinjnaaRetL
import Derived.Deep.RegionLaw
import Derived.Deep.RegionHeld3
import Derived.Deep.AppendLies
namespace Go.Proofs.Ytpfonniepinjnaa
open Go.RowKit

set_option maxHeartbeats 1600000 in
set_option maxRecDepth 100000 in
theorem rturned_any (a b : Nat) (cs : List Int) (A : Option Addr) (c : Nat) (w : World) (ha : a ≤ 64) (hb : b ≤ 64) (hr : Rd w A (b * a) (cs.map (Value.int .i64))) :
    Calls Try.prog 56 #[.agg #[.int .i64 a, .int .i64 b, .slice A (b * a) c]] w (RetJ ⟨b, a, Pl.tab b a fun x y => cs.getD (x * a + y) 0⟩ w) := by
  obtain ⟨i0, hi, hz0, hz1, hz2⟩ := info_parts Try.infoI
  have S0 := ((((St.start w).addRd hr).box #[.int .i64 a, .int .i64 b, .slice A (b * a) c] 29).box #[.int .i64 0, .int .i64 0, .slice none 0 0] 29).box #[.int .i64 b, .int .i64 a, .slice none 0 0] 29
  simp only [size_alloc1, List.nil_append, List.cons_append] at S0
  have hM0 := S0.blk 3 rfl
  have hR0 := S0.blk 2 rfl
  have hV0 := S0.blk 1 rfl
  have hB0 := S0.below
  obtain ⟨c0, c1, c2⟩ := hV0.cell3
  have HRd := Lib.hid (fun wz (hz : Below w.heap.size w wz) => hr.below hz)
  clear S0 hr
  go_enter Try.func56, Try.ntmps56
  go_wp2_with fail
  clear c0 c1 c2
  go_loopw [4] (fun i wr => ∃ (y cp : Nat) (Al : Option Addr), y ≤ a ∧ i = .int .i64 y ∧ Blk wr (w.heap.size + 1 + 1) 29 #[.int .i64 b, .int .i64 a, .slice Al (y * b) cp] ∧
      Blk wr (w.heap.size + 1) 29 #[.int .i64 0, .int .i64 0, .slice none 0 0] ∧ Blk wr w.heap.size 29 #[.int .i64 a, .int .i64 b, .slice A (b * a) c] ∧
      wr.ownsRow w.heap.size 3 1 (.slice Al (y * b) cp) (y * b) ((Pl.tab b y fun x y => cs.getD (x * a + y) 0).map (Value.int .i64)) ∧ Below w.heap.size w wr)
    (fun i _ => a - (intOf i).toNat)
  case atStart => exact ⟨0, 0, none, Nat.zero_le _, rfl, by simpa using hM0, hR0, hV0, by simpa [Pl.tab_zero] using World.ownsRow_nil _ _ _ _, hB0⟩
  case round =>
    clear hM0 hR0 hV0 hB0
    obtain ⟨y, cp, Al, hy, rfl, hblk, hr, hv, hown, hbel⟩ := hrel
    obtain ⟨v0, v1, v2⟩ := hv.cell3
    by_cases hlt : y < a
    · go_wp2_with fail
      go_loopw [5] (fun i wr => ∃ (x cp : Nat) (Al : Option Addr), x ≤ b ∧ i = .int .i64 x ∧ Blk wr (w.heap.size + 1 + 1) 29 #[.int .i64 b, .int .i64 a, .slice Al (y * b + x) cp] ∧
          Blk wr (w.heap.size + 1) 29 #[.int .i64 0, .int .i64 0, .slice none 0 0] ∧ Blk wr w.heap.size 29 #[.int .i64 a, .int .i64 b, .slice A (b * a) c] ∧
          wr.ownsRow w.heap.size 3 1 (.slice Al (y * b + x) cp) (y * b + x) (((Pl.tab b y fun x y => cs.getD (x * a + y) 0) ++ (List.range x).map fun x => cs.getD (x * a + y) 0).map (Value.int .i64)) ∧ Below w.heap.size w wr)
        (fun i _ => b - (intOf i).toNat)
      case atStart => exact ⟨0, cp, Al, Nat.zero_le _, rfl, hblk, hr, hv, by simpa using hown, hbel⟩
      case round =>
        clear hblk hr hv hown hbel v0 v1 v2 Al
        obtain ⟨x, cp, Al, hx, rfl, hblk, hr, hv, hown, hbel⟩ := hrel
        obtain ⟨v0, v1, v2⟩ := hv.cell3
        by_cases hltx : x < b
        · have HC := Lib.hid (fun W hB => atI_any a b y x (y : Int) (x : Int) rfl rfl cs (b : Int) A c W ha hb hlt hltx (HRd.out W hB))
          have hbs := hblk.lt
          obtain ⟨m0, m1, m2⟩ := hblk.cell3
          go_wp2_with fail
          have hsm : y * b + x + 1 ≤ 1048576 := by
            have h1 := Pl.cell_lt (w := b) (h := a) hltx hlt
            have h2 : a * b ≤ 64 * 64 := Nat.mul_le_mul ha hb
            omega
          have hsx : w.heap.size ≤ wr.heap.size := hbel.size
          go_region_law
            (first
              | (go_simp
                 go_at_call 14
                 refine (HC.out wr.drew hbel.drew).mono ?_
                 rintro e w2 ⟨rfl, hb2⟩
                 have hown2 := own_below hown.drew hb2
                 have hblk2 := hblk.drew.keep hb2
                 have cc2 := hblk2.cell 2
                 have cc2a := fun o => (hblk2.alloc o).cell 2
                 have hs2 : wr.heap.size ≤ w2.heap.size := hb2.size)
              | (refine step_app _ rfl (.tmp 24) (.tmp 29) 25 rfl w.heap.size 3 i0 (.int .i64 0) 8 Try.underlying25 hi hz0 hz1 hz2 rfl (by decide) (.slice Al (y * b + x) cp) (y * b + x) _ rfl (hown2.alloc _) w2.heap.size (.int .i64 (cs.getD (x * a + y) 0)) rfl (new_cell w2 _ _) rfl hsm (size_alloc_le (Nat.le_trans hsx hs2) _) ?_; intro g' cp' w3 hown3 hgr3; have hblk3 := (hblk2.alloc _).grown hgr3 (own_blk_ne hown2 hblk2 (by decide)); have hfz3 := hblk3.frozen 2; have cc3 := hblk3.cell 2)
              | fail)
          all_goals
            have hr2 := (hr.drew.keep hb2).alloc (.cells #[.int .i64 (cs.getD (x * a + y) 0)] 3)
            have hv2 := (hv.drew.keep hb2).alloc (.cells #[.int .i64 (cs.getD (x * a + y) 0)] 3)
            have hr3 := hr2.grown hgr3 (own_blk_ne (hown2.alloc (.cells #[.int .i64 (cs.getD (x * a + y) 0)] 3)) hr2 (by decide))
            have hv3 := hv2.grown hgr3 (own_blk_ne (hown2.alloc (.cells #[.int .i64 (cs.getD (x * a + y) 0)] 3)) hv2 (by decide))
            have hbel3 : Below w.heap.size w w3 := ((hbel.drew.trans (hb2.mono hbel.size)).alloc (Nat.le_trans hbel.size hs2) _).grown hgr3 (size_alloc_le (Nat.le_trans hbel.size hs2) _) (fun k hk => (hown2.lt k hk).1)
            have R1 := Lib.hid (hblk3.set_ 2 (.slice (some ⟨g', 0, none⟩) (y * b + x + 1) cp'))
            have R2 := Lib.hid (hr3.far (p := ⟨w.heap.size + 1 + 1, 2, none⟩) (by simp) (.slice (some ⟨g', 0, none⟩) (y * b + x + 1) cp'))
            have R5 := Lib.hid (hv3.far (p := ⟨w.heap.size + 1 + 1, 2, none⟩) (by simp; omega) (.slice (some ⟨g', 0, none⟩) (y * b + x + 1) cp'))
            have R3 := Lib.hid (own_far hown3 (p := ⟨w.heap.size + 1 + 1, 2, none⟩) (own_blk_ne hown3 hblk3 (by decide)) (.slice (some ⟨g', 0, none⟩) (y * b + x + 1) cp'))
            have R4 := Lib.hid (hbel3.setCell (p := ⟨w.heap.size + 1 + 1, 2, none⟩) (by simp; omega) (.slice (some ⟨g', 0, none⟩) (y * b + x + 1) cp'))
            clear hr hown hbel hblk hbs m0 m1 m2 hb2 hown2 hblk2 cc2 cc2a hown3 hgr3 hblk3 hfz3 cc3 hr2 hr3 hbel3 hv hv2 hv3 v0 v1 v2
            go_wp2_with fail
            go_roundw
            case rel => exact ⟨x + 1, cp', some ⟨g', 0, none⟩, by omega, by go_num, by simpa [Nat.add_assoc] using R1.out, R2.out, R5.out, by simpa [List.range_succ, Nat.add_assoc] using R3.out, R4.out⟩
            case measure => simp [intOf]; omega
        · have hxa : x = b := by omega
          subst hxa
          go_wp2_with fail
          go_roundw
          case rel => exact ⟨y + 1, cp, Al, by omega, by go_num, by simpa [Nat.succ_mul] using hblk, hr, hv, by rw [Pl.tab_succ]; simpa [Nat.succ_mul] using hown, hbel⟩
          case measure => simp [intOf]; omega
    · have hyb : y = a := by omega
      subst hyb
      obtain ⟨c0, c1, c2⟩ := hblk.cell3
      obtain ⟨r0, r1, r2⟩ := hr.cell3
      obtain ⟨f0, f1, f2⟩ := hr.frozen3
      obtain ⟨q0, q1, q2⟩ := (hr.set3 (.int .i64 b) (.int .i64 y) (.slice Al (y * b) cp)).cell3
      go_wp2_with fail
      refine bodyPost_ret (v := .agg #[.int .i64 b, .int .i64 y, .slice Al (y * b) cp]) (by simp [results, Try.results56, go_sem, q0, q1, q2]) rfl ?_
      exact ⟨Al, _, cp, rfl, own_set3 hown hr (by decide) _ _ _, below_set3 hbel (by omega) _ _ _⟩

set_option maxHeartbeats 1000000 in
set_option maxRecDepth 100000 in
theorem rturnI_any (m : Im) (A : Option Addr) (n c : Nat) (w : World) (hr : Rd w A n (m.c.map (Value.int .i64))) (hn : n ≤ 1048576) :
    Calls Try.prog 32 #[.agg #[.int .i64 m.w, .int .i64 m.h, .slice A n c]] w (RetI (turnI m) w) := by
  have lb : m.c.length = n := by simpa using hr.len
  have S0 := ((((St.start w).addRd hr).box #[.int .i64 m.w, .int .i64 m.h, .slice A n c] 29).box #[.int .i64 0, .int .i64 0, .slice none 0 0] 29)
  simp only [size_alloc1, List.nil_append, List.cons_append] at S0
  obtain ⟨c0, c1, c2⟩ := (S0.blk 1 rfl).cell3
  have HT := Lib.hid (fun (W : World) h => rcheckI_any m A n c W h hn)
  by_cases h0 : chkI m = 0
  · obtain ⟨a, b, l, rfl, ha1, ha, hb1, hb, hl, _⟩ := img_open h0
    have HC := Lib.hid (turnI_mk h0)
    rw [h0] at HT
    simp only at lb HT S0 c0 c1 c2 ⊢
    obtain rfl : n = b * a := by omega
    clear h0 lb hl hr
    go_enter Try.func32, Try.ntmps32
    go_wp2_with fail
    refine (HT.out _ (S0.rd 0 rfl)).mono ?_
    rintro e w1 ⟨rfl, hb1⟩
    have S1 := S0.keep hb1
    clear c0 c1 c2 HT
    obtain ⟨c0, c1, c2⟩ := (S1.blk 1 rfl).cell3
    go_wp2_with fail
    refine (rturned_any a b l A c w1 ha hb (S1.rd 0 rfl)).mono ?_
    rintro e w2 ⟨A2, n2, c2', rfl, hown2, hb2⟩
    simp only at hown2 ⊢
    have S2 := S1.keep hb2
    have hR2 := S2.blk 2 rfl
    obtain ⟨r0, r1, r2⟩ := hR2.cell3
    obtain ⟨f0, f1, f2⟩ := hR2.frozen3
    obtain ⟨q0, q1, q2⟩ := (hR2.set3 (.int .i64 b) (.int .i64 a) (.slice A2 n2 c2')).cell3
    clear c0 c1 c2
    go_wp2_with fail
    refine bodyPost_ret (v := .tuple #[.agg #[.int .i64 b, .int .i64 a, .slice A2 n2 c2'], .int .i64 0]) (by simp [results, Try.results32, go_sem, q0, q1, q2]) rfl ?_
    refine ⟨A2, n2, c2', by rw [HC.out], ?_, below_set3 S2.below (by omega) _ _ _⟩
    rw [HC.out]
    exact own_set3 (own_base hown2 S1.size) hR2 (by decide) _ _ _
  · have hcb : (chkI m != 0) = true := by simpa using h0
    have HC := Lib.hid (turnI_bad h0)
    clear h0 lb
    generalize chkI m = t at *
    go_enter Try.func32, Try.ntmps32
    go_wp2_with fail
    refine (HT.out _ (S0.rd 0 rfl)).mono ?_
    rintro e w1 ⟨rfl, hb1⟩
    have S1 := S0.keep hb1
    clear c0 c1 c2
    obtain ⟨c0, c1, c2⟩ := (S1.blk 1 rfl).cell3
    go_wp2_with fail
    refine (HT.out _ (S1.rd 0 rfl)).mono ?_
    rintro e w2 ⟨rfl, hb2⟩
    have S2 := S1.keep hb2
    have hR2 := S2.blk 2 rfl
    obtain ⟨r0, r1, r2⟩ := hR2.cell3
    obtain ⟨f0, f1, f2⟩ := hR2.frozen3
    obtain ⟨q0, q1, q2⟩ := (hR2.set3 (.int .i64 0) (.int .i64 0) (.slice none 0 0)).cell3
    clear c0 c1 c2
    go_wp2_with fail
    refine bodyPost_ret (v := .tuple #[.agg #[.int .i64 0, .int .i64 0, .slice none 0 0], .int .i64 t]) (by simp [results, Try.results32, go_sem, q0, q1, q2]) rfl ?_
    exact bad_retI HC.out (below_set3 S2.below (by omega) _ _ _)
end Go.Proofs.Ytpfonniepinjnaa
