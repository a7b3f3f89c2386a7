/- All and Alike of the program's side. -/
import Derived.Test.YtliibficmdomjaaDoorMg6z
import Derived.Test.YtliibficmdomjaaDoorMg14z
import Derived.Test.YtliibficmdomjaaDoorMg9z
import Derived.BigRegion
namespace Go.Proofs.YtliibficmdomjaaDoor
open Go.RowKit

set_option maxHeartbeats 1000000 in
set_option maxRecDepth 100000 in
theorem all_any (g : Gd) (A : Option Addr) (n c : Nat) (w : World) (hr : Rd w A n (g.bits.map Value.bool)) (hcc : n ≤ c) :
    Calls Tryd.prog 16 #[.agg #[.int .i64 g.w, .int .i64 g.h, .slice A n c]] w (AllRet g w) := by
  obtain ⟨W, H, bs⟩ := g
  simp only at hr ⊢
  have hn : bs.length = n := by simpa using hr.len
  have hs : startG ⟨W, H, bs⟩ = startN W H n := startG_n hn
  have S0 := ((St.start w).addRd hr).box #[.int .i64 W, .int .i64 H, .slice A n c] 24
  have S0 := S0.box #[.int .i64 W, .int .i64 H, .slice A n c] 24
  simp only [size_alloc1, List.nil_append, List.cons_append] at S0
  obtain ⟨c0, c1, c2⟩ := (S0.blk 1 rfl).cell3
  by_cases hc : startN W H n = 0
  · obtain ⟨hc1, _, _⟩ := startN_zero hc
    obtain ⟨a, b, rfl, rfl, ha1, ha, hbb, hb, rfl⟩ := chk_zero hc1
    clear hc1
    have hcb : (startN (a : Int) (b : Int) (b * a) != 0) = false := by simpa using hc
    have hs0 : startG ⟨a, b, bs⟩ = 0 := by rw [hs]; exact hc
    have HA := Lib.hid (fun WW h => alike_any a b bs ⟨a, b, bs⟩ A A c (b * a) c WW ha1 hbb ha hb h h hcc)
    have HOK := Lib.hid (fun l h => allR_ok (l := l) hs0 h)
    clear hs hc hs0
    generalize b * a = n at *
    go_enter Tryd.func16, Tryd.ntmps16
    go_wp2_with fail
    refine (check1_any _ _ _ _ _ _ _ _ (S0.blk 2 rfl)).mono ?_
    rintro e w1 ⟨rfl, hb1⟩
    have S := S0.keep hb1
    clear c0 c1 c2
    obtain ⟨c0, c1, c2⟩ := (S.blk 1 rfl).cell3
    go_wp2_with fail
    refine (HA.out _ (S.rd 0 rfl)).mono ?_
    rintro e w2 ⟨l, A2, n2, c2', hl, rfl, hown2, hb2⟩
    go_wp2_with fail
    go_ret2
    exact ⟨(l, 0), HOK.out l hl, A2, n2, c2', rfl, own_base hown2 S.size, (S.keep hb2).below⟩
  · have hcb : (startN W H n != 0) = true := by simpa using hc
    have HQ := Lib.hid (allR_bad hs hc)
    clear hs hc
    go_enter Tryd.func16, Tryd.ntmps16
    go_wp2_with fail
    refine (check1_any _ _ _ _ _ _ _ _ (S0.blk 2 rfl)).mono ?_
    rintro e w1 ⟨rfl, hb1⟩
    have S := S0.keep hb1
    clear c0 c1 c2
    obtain ⟨c0, c1, c2⟩ := (S.blk 1 rfl).cell3
    go_wp2_with fail
    go_ret2
    exact ⟨_, HQ.out, retL_bad S.below⟩

/-- Two grids. -/
theorem check2_any (g g' : Gd) (A A' : Option Addr) (n c n' c' bg : Nat) (t : TypeId) (w : World) (hn : g.bits.length = n) (hn' : g'.bits.length = n') (hb : Blk w bg t #[.int .i64 g.w, .int .i64 g.h, .slice A n c, .int .i64 g'.w, .int .i64 g'.h, .slice A' n' c']) :
    Calls Tryd.prog 32 #[.slice (some ⟨bg, 0, none⟩) 2 2] w fun e w' => e = .returned (.int .i64 (start2 g g')) ∧ Below w.heap.size w w' := by
  refine (scheck_any 2 bg (fun i => if i = 0 then g.w else g'.w) (fun i => if i = 0 then g.h else g'.h) (fun i => if i = 0 then A else A') (fun i => if i = 0 then n else n') (fun i => if i = 0 then c else c') w (by omega) (fun i hi wz hz => ?_)).mono ?_
  · have hk := hb.keep hz
    rcases (show i = 0 ∨ i = 1 by omega) with rfl | rfl
    · exact ⟨hk.cell 0, hk.cell 1, hk.cell 2⟩
    · exact ⟨hk.cell 3, hk.cell 4, hk.cell 5⟩
  · rintro e w' ⟨r, hr, rfl, hbel⟩
    refine ⟨?_, hbel⟩
    have e1 : chkG g = chk g.w g.h n := by unfold chkG; rw [hn]
    have e2 : chkG g' = chk g'.w g'.h n' := by unfold chkG; rw [hn']
    have e3 := startG_n hn
    have e4 := startG_n hn'
    congr 2
    rcases hr with ⟨i, hi, h0, h1, h2⟩ | ⟨h1, ⟨j, hj, h2⟩, h3⟩ | ⟨h1, h2, h3⟩
    · rcases (show i = 0 ∨ i = 1 by omega) with rfl | rfl
      · simp only [if_true] at h1 h2
        have hb : both2 g g' = chk g.w g.h n := by unfold both2; rw [e1, if_pos h1]
        unfold start2
        rw [hb, if_pos h1, h2]
      · have h00 := h0 0 (by omega)
        simp only [if_true] at h00
        simp only [Nat.one_ne_zero, if_false] at h1 h2
        have hb : both2 g g' = chk g'.w g'.h n' := by unfold both2; rw [e1, if_neg (fun h => h h00), e2]
        unfold start2
        rw [hb, if_pos h1, h2]
    · have k0 := h1 0 (by omega)
      have k1 := h1 1 (by omega)
      simp only [if_true] at k0
      simp only [Nat.one_ne_zero, if_false] at k1
      have hb : both2 g g' = 0 := by unfold both2; rw [e1, if_neg (fun h => h k0), e2]; exact k1
      unfold start2
      rw [hb, if_neg (fun h => h rfl), h3, e3, e4]
      by_cases hg : 16 < g.w ∨ 16 < g.h
      · rw [startN_big k0 hg, if_pos (by omega)]
      · rw [startN_ok k0 hg, if_neg (by omega)]
        rcases (show j = 0 ∨ j = 1 by omega) with rfl | rfl
        · simp only [if_true] at h2
          exact absurd h2 hg
        · simp only [Nat.one_ne_zero, if_false] at h2
          rw [startN_big k1 h2]
    · have k0 := h1 0 (by omega)
      have k1 := h1 1 (by omega)
      have g0 := h2 0 (by omega)
      have g1 := h2 1 (by omega)
      simp only [if_true] at k0 g0
      simp only [Nat.one_ne_zero, if_false] at k1 g1
      have hb : both2 g g' = 0 := by unfold both2; rw [e1, if_neg (fun h => h k0), e2]; exact k1
      unfold start2
      rw [hb, if_neg (fun h => h rfl), h3, e3, e4, startN_ok k0 g0, if_neg (by omega), startN_ok k1 g1]

set_option maxHeartbeats 1000000 in
set_option maxRecDepth 100000 in
theorem alikes_any (g g' : Gd) (A A' : Option Addr) (n c n' c' : Nat) (w : World) (hr : Rd w A n (g.bits.map Value.bool)) (hr' : Rd w A' n' (g'.bits.map Value.bool)) (hcc' : n' ≤ c') :
    Calls Tryd.prog 15 #[.agg #[.int .i64 g.w, .int .i64 g.h, .slice A n c], .agg #[.int .i64 g'.w, .int .i64 g'.h, .slice A' n' c']] w (AlikeRet g g' w) := by
  have hn : g.bits.length = n := by simpa using hr.len
  have hn' : g'.bits.length = n' := by simpa using hr'.len
  have S0 := ((((St.start w).addRd hr).addRd hr').box #[.int .i64 g.w, .int .i64 g.h, .slice A n c] 24).box #[.int .i64 g'.w, .int .i64 g'.h, .slice A' n' c'] 24
  have S0 := S0.box #[.int .i64 g.w, .int .i64 g.h, .slice A n c, .int .i64 g'.w, .int .i64 g'.h, .slice A' n' c'] 24
  simp only [size_alloc1, List.nil_append, List.cons_append] at S0
  obtain ⟨c0, c1, c2⟩ := (S0.blk 2 rfl).cell3
  obtain ⟨d0, d1, d2⟩ := (S0.blk 3 rfl).cell3
  have HCK := Lib.hid (fun bg t WW hb => check2_any g g' A A' n c n' c' bg t WW hn hn' hb)
  by_cases hc : start2 g g' = 0
  · have hcb : (start2 g g' != 0) = false := by simpa using hc
    obtain ⟨hs1, _⟩ := start2_zero hc
    obtain ⟨W, H, bs⟩ := g
    have hs2 : startN W H n = 0 := by
      have e := startG_n hn
      rw [hs1] at e
      exact e.symm
    obtain ⟨hc1, _, _⟩ := startN_zero hs2
    simp only at hn hcb S0 c0 c1 HCK
    obtain ⟨a, b, rfl, rfl, ha1, ha, hbb, hb, rfl⟩ := chk_zero hc1
    clear hc1 hs1 hs2
    have HA := Lib.hid (fun WW h h' => alike_any a b bs g' A A' c n' c' WW ha1 hbb ha hb h h' hcc')
    have HOK := Lib.hid (fun l h => alikeR_ok (l := l) hc h)
    clear hc
    generalize start2 ⟨a, b, bs⟩ g' = z at *
    generalize b * a = n at *
    go_enter Tryd.func15, Tryd.ntmps15
    go_wp2_with fail
    refine (HCK.out _ _ _ (S0.blk 4 rfl)).mono ?_
    rintro e w1 ⟨rfl, hb1⟩
    have S := S0.keep hb1
    clear c0 c1 c2 d0 d1 d2
    obtain ⟨c0, c1, c2⟩ := (S.blk 2 rfl).cell3
    obtain ⟨d0, d1, d2⟩ := (S.blk 3 rfl).cell3
    go_wp2_with fail
    refine (HA.out _ (S.rd 0 rfl) (S.rd 1 rfl)).mono ?_
    rintro e w2 ⟨l, A2, n2, c2', hl, rfl, hown2, hb2⟩
    go_wp2_with fail
    go_ret2
    exact ⟨(l, 0), HOK.out l hl, A2, n2, c2', rfl, own_base hown2 S.size, (S.keep hb2).below⟩
  · have hcb : (start2 g g' != 0) = true := by simpa using hc
    have HQ := Lib.hid (alikeR_bad rfl hc)
    clear hc
    generalize start2 g g' = z at *
    go_enter Tryd.func15, Tryd.ntmps15
    go_wp2_with fail
    refine (HCK.out _ _ _ (S0.blk 4 rfl)).mono ?_
    rintro e w1 ⟨rfl, hb1⟩
    have S := S0.keep hb1
    clear c0 c1 c2 d0 d1 d2
    obtain ⟨c0, c1, c2⟩ := (S.blk 2 rfl).cell3
    obtain ⟨d0, d1, d2⟩ := (S.blk 3 rfl).cell3
    go_wp2_with fail
    go_ret2
    exact ⟨_, HQ.out, retL_bad S.below⟩

end Go.Proofs.YtliibficmdomjaaDoor
