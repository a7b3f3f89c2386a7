/- The law LoomlogReplays, walked: it answers true and turns nothing that was there. -/
import Derived.Test.YtfjdlbilnoojkaaRReplay
import Derived.Test.YtfjdlbilnoojkaaRMend
import Derived.Test.YtfjdlbilnoojkaaRShort
import Derived.Test.YtfjdlbilnoojkaaTwin20
import Derived.Test.YtfjdlbilnoojkaaGreat20
import Derived.Test.YtfjdlbilnoojkaaGreat
import Derived.Test.YtfjdlbilnoojkaaESame
import Derived.Test.YtfjdlbilnoojkaaRSame
namespace Go.Proofs.Ytfjdlbilnoojkaa
open Go.RowKit

theorem rowB_le (a : Nat) (bs : List Bool) (k : Nat) : (rowB a bs k).length ≤ a := by unfold rowB; rw [List.length_take]; omega
theorem shortE_small (W H : Int) (bs : List Bool) : (shortE W H bs).1.length ≤ 64 ∧ ∀ e ∈ (shortE W H bs).1, e.2.length ≤ 64 := by
  unfold shortE
  split
  · exact ⟨by simp, fun e h => by simp at h⟩
  · rename_i h
    obtain ⟨a, b, rfl, rfl, _, ha, _, hb, _⟩ := chkP_zero (show chkP W H bs.length = 0 by simpa using h)
    refine ⟨?_, fun e he => ?_⟩
    · show (shortL _ _ _).length ≤ 64
      unfold shortL
      simp
      omega
    · unfold shortL at he
      obtain ⟨y, _, rfl⟩ := List.mem_map.1 he
      have := rowB_le (Int.toNat (a : Int)) bs y
      simp at this ⊢
      omega
theorem mendTo_small {a : List (List Bool)} {m k j : Nat} (h : ∀ r ∈ a, r.length ≤ 64) : ∀ e ∈ mendTo a m k j, e.2.length ≤ 64 := by
  intro e he
  unfold mendTo at he
  rcases List.mem_append.1 he with h1 | h1
  · rw [List.eq_of_mem_replicate h1]; simp
  · obtain ⟨r, hr, rfl⟩ := List.mem_map.1 h1
    exact h r (List.mem_of_mem_drop (List.mem_of_mem_take hr))
theorem mendE_small (W H : Int) (bs : List Bool) (l : List Ev) : (mendE W H bs l).1.length ≤ 400 ∧ ∀ e ∈ (mendE W H bs l).1, e.2.length ≤ 64 := by
  unfold mendE
  split
  · exact ⟨by simp, fun e h => by simp at h⟩
  · rename_i h
    split
    · exact ⟨by simp, fun e h => by simp at h⟩
    · split
      · exact ⟨by simp, fun e h => by simp at h⟩
      · rename_i h2 h3
        obtain ⟨a, b, rfl, rfl, _, ha, _, hb, _⟩ := chkP_zero (show chkP W H bs.length = 0 by simpa using h)
        refine ⟨Nat.le_trans (Nat.le_add_left _ _) (Nat.not_lt.1 h3), fun e he => mendTo_small (fun r hr => ?_) e he⟩
        obtain ⟨y, _, rfl⟩ := List.mem_map.1 hr
        have := rowB_le (Int.toNat (a : Int)) bs y
        simp at this ⊢
        omega
theorem replayG_small (N : Int) (l : List Ev) : (replayG N l).1.bits.length ≤ 2560 := by
  unfold replayG
  split
  · exact Nat.zero_le _
  · rename_i h
    split
    · exact Nat.zero_le _
    · have h0 : (runE N l).1 = 0 := by simpa using h
      have hN := runE_N h0
      have h1 := runE_rows (N := N.toNat) (l := l)
      rw [show ((N.toNat : Nat) : Int) = N by omega] at h1
      show (runE N l).2.flatten.length ≤ 2560
      rw [flat_len h1.1]
      exact Nat.le_trans (Nat.mul_le_mul h1.2 (show N.toNat ≤ 40 by omega)) (by decide)
theorem sameG_refl (g : Gd) : sameG g g = true := decide_eq_true ⟨rfl, rfl, rfl⟩
theorem esame_le (ls : List Ev) (A A' : Option Addr) (n n' c c' : Nat) (w : World) (h : LogR w A n ls) (h' : LogR w A' n' ls) (hl : ls.length ≤ 1048576) (hm : ∀ l ∈ ls, l.2.length ≤ 1048576) :
    Calls Try.prog 22 #[.slice A n c, .slice A' n' c'] w fun e w' => e = .returned (.bool true) ∧ Below w.heap.size w w' := by
  obtain rfl : n = n' := by have h1 := h.len; have h2 := h'.len; omega
  exact esame_any ls A A' c c' n w h h' (by have h1 := h.len; omega) hm
set_option maxHeartbeats 4000000 in
set_option maxRecDepth 100000 in
theorem lreplays_walk (N : Int) (l : List Ev) (g : Gd) (A : Option Addr) (n c : Nat) (A2 : Option Addr) (n2 c2 : Nat) (w : World) (hr : LogR w A n l) (hnc : n ≤ c) (hc : c ≤ maxLen) (hr2 : Rd w A2 n2 (g.bits.map Value.bool)) (hn2 : n2 ≤ c2) :
    Calls Try.prog 3 #[.int .i64 N, .slice A n c, .agg #[.int .i64 g.w, .int .i64 g.h, .slice A2 n2 c2]] w fun e w' => e = .returned (.bool true) ∧ Below w.heap.size w w' := by
  obtain ⟨GW, GH, bs⟩ := g
  simp only at hr2 ⊢
  have S0 := (St.start w).box #[.int .i64 GW, .int .i64 GH, .slice A2 n2 c2] 25
  simp only [List.nil_append] at S0
  have HG := Lib.hid (great20_any l A n c _ (hr.below S0.below) (Nat.le_trans hnc hc))
  obtain ⟨c0, c1, c2'⟩ := (S0.blk 0 rfl).cell3
  by_cases hg : greatE l = true
  · rw [hg] at HG
    go_enter Try.func3, Try.ntmps3
    go_wp2_with fail
    refine HG.out.mono ?_
    rintro e w1 ⟨rfl, rfl⟩
    go_wp2_with fail
    go_ret
    exact ⟨rfl, S0.below⟩
  have hg' : greatE l = false := by simpa using hg
  rw [hg'] at HG
  obtain ⟨hm50, hl410⟩ := greatE_no hg'
  have HGG := Lib.hid (fun u => great_any GW GH A2 n2 c2 u)
  by_cases hbig : 4200 < n2
  · rw [decide_eq_true hbig] at HGG
    go_enter Try.func3, Try.ntmps3
    go_wp2_with fail
    refine HG.out.mono ?_
    rintro e w1 ⟨rfl, rfl⟩
    go_wp2_with fail
    refine (HGG.out _).mono ?_
    rintro e w1 ⟨rfl, hb1⟩
    go_wp2_with fail
    go_ret
    exact ⟨rfl, (S0.keep hb1).below⟩
  rw [decide_eq_false hbig] at HGG
  have HLEN := Lib.hid hr.len
  have hn410 : n ≤ 410 := by have := hr.len; omega
  have HTW := Lib.hid (fun u (hu : Below w.heap.size w u) => twin20_any l A n c u (hr.below hu) (by omega) (fun e he => by have := hm50 e he; omega))
  have HRB := Lib.hid (fun u (hu : Below w.heap.size w u) => hr.below hu)
  have HRD := Lib.hid (fun u (hu : Below w.heap.size w u) => hr2.below hu)
  have HM := Lib.hid hm50
  have HLL := Lib.hid hl410
  clear hr hr2 hm50 hl410 hg hg' hbig
  go_enter Try.func3, Try.ntmps3
  go_wp2_with fail
  refine HG.out.mono ?_
  rintro e w1 ⟨rfl, rfl⟩
  go_wp2_with fail
  refine (HGG.out _).mono ?_
  rintro e w1 ⟨rfl, hb1⟩
  have S1 := S0.keep hb1
  clear c0 c1 c2'
  go_wp2_with fail
  -- own
  refine (HTW.out _ S1.below).mono ?_
  rintro e w2 ⟨AO, cO, rfl, hleO, hb2⟩
  have S2 := S1.keep hb2
  obtain ⟨_, _, eO, hO1, hO2⟩ := hleO.shape
  injection eO with eO1 _ eO2
  subst eO1 eO2
  have hO := hleO.read
  obtain ⟨R3, hR3⟩ : ∃ R3, R3 = replayG N l := ⟨_, rfl⟩
  obtain ⟨R5, hR5⟩ : ∃ R5, R5 = shortE GW GH bs := ⟨_, rfl⟩
  obtain ⟨R7, hR7⟩ : ∃ R7, R7 = mendE GW GH bs l := ⟨_, rfl⟩
  have C3 := Lib.hid (fun A n c u h => hR3 ▸ replay_any N l A n c u h)
  have C4 := Lib.hid (fun A n c u h => hR3 ▸ rreplay_any N l A n c u h)
  have C5 := Lib.hid (fun A n c u h h2 => hR5 ▸ short_any GW GH bs A n c u h h2)
  have C6 := Lib.hid (fun A n c u h h2 => hR5 ▸ rshort_any GW GH bs A n c u h h2)
  have C7 := Lib.hid (fun A n c B m k u h h2 h3 h4 => hR7 ▸ mend_any GW GH bs A n c l B m k u h h2 h3 h4)
  have C8 := Lib.hid (fun A n c B m k u h h2 h3 h4 => hR7 ▸ rmend_any GW GH bs A n c l B m k u h h2 h3 h4)
  have Z3 := Lib.hid (show R3.1.bits.length ≤ 2560 from hR3 ▸ replayG_small N l)
  have Z5 := Lib.hid (show R5.1.length ≤ 64 ∧ ∀ e ∈ R5.1, e.2.length ≤ 64 from hR5 ▸ shortE_small GW GH bs)
  have Z7 := Lib.hid (show R7.1.length ≤ 400 ∧ ∀ e ∈ R7.1, e.2.length ≤ 64 from hR7 ▸ mendE_small GW GH bs l)
  have CH := Lib.hid (fun A n c u h => echk_any N l A n c u h)
  have CR := Lib.hid (fun A n c u h => rechk_any N l A n c u h)
  clear hR3 hR5 hR7
  generalize chkE N l = K at *
  obtain ⟨g3, t3⟩ := R3
  obtain ⟨l5, t5⟩ := R5
  obtain ⟨l7, t7⟩ := R7
  obtain ⟨w3g, h3g, bs3⟩ := g3
  simp only at Z3 Z5 Z7
  go_wp2_with fail
  refine (C3.out AO n cO w2 hO).mono ?_
  rintro e w3 ⟨A3, n3, c3, rfl, hown3, hb3⟩
  have hr3 := rd_of_own hown3
  clear hown3
  simp only at hr3
  have hn3 : n3 ≤ 2560 := by have h1 := hr3.len; rw [List.length_map] at h1; have := Z3.out; omega
  have S3 := ((S2.keep hb3).addRd hr3).box #[.int .i64 w3g, .int .i64 h3g, .slice A3 n3 c3] 25
  simp only [List.cons_append, List.nil_append] at S3
  have hO3 := (hO.below hb3).below (below_alloc1 w3 (.cells #[.int .i64 w3g, .int .i64 h3g, .slice A3 n3 c3] 25))
  clear hr3 hb3 S2 hO hleO
  go_wp2_with fail
  refine (C4.out A n c _ (HRB.out _ S3.below)).mono ?_
  rintro e w4 ⟨A4, n4, c4, rfl, hown4, hb4⟩
  have hr4 := rd_of_own hown4
  clear hown4
  simp only at hr4
  have S4 := ((S3.keep hb4).addRd hr4).box #[.int .i64 w3g, .int .i64 h3g, .slice A4 n4 c4] 25
  simp only [List.cons_append, List.nil_append] at S4
  have hO4 := (hO3.below hb4).below (below_alloc1 w4 (.cells #[.int .i64 w3g, .int .i64 h3g, .slice A4 n4 c4] 25))
  clear hr4 hb4 S3 hO3
  obtain ⟨c0, c1, c2'⟩ := (S4.blk 0 rfl).cell3
  go_wp2_with fail
  refine (C5.out A2 n2 c2 _ (HRD.out _ S4.below) hn2).mono ?_
  rintro e w5 ⟨A5, n5, c5, rfl, hl5, _, _, hb5⟩
  have S5 := S4.keep hb5
  have hO5 := hO4.below hb5
  clear S4 hO4 c0 c1 c2'
  obtain ⟨c0, c1, c2'⟩ := (S5.blk 0 rfl).cell3
  go_wp2_with fail
  refine (C6.out A2 n2 c2 _ (HRD.out _ S5.below) hn2).mono ?_
  rintro e w6 ⟨A6, n6, c6, rfl, hl6, _, _, hb6⟩
  have S6 := S5.keep hb6
  have hO6 := hO5.below hb6
  have hl56 := hl5.below hb6
  clear S5 hO5 hl5 c0 c1 c2'
  obtain ⟨c0, c1, c2'⟩ := (S6.blk 0 rfl).cell3
  go_wp2_with fail
  refine (C7.out A2 n2 c2 AO n cO _ (HRD.out _ S6.below) hn2 hO6 (by omega)).mono ?_
  rintro e w7 ⟨A7, n7, c7, rfl, hl7, _, _, hb7⟩
  have S7 := S6.keep hb7
  have hO7 := hO6.below hb7
  have hl57 := hl56.below hb7
  have hl67 := hl6.below hb7
  clear S6 hO6 hl56 hl6 c0 c1 c2'
  obtain ⟨c0, c1, c2'⟩ := (S7.blk 0 rfl).cell3
  go_wp2_with fail
  refine (C8.out A2 n2 c2 A n c _ (HRD.out _ S7.below) hn2 (HRB.out _ S7.below) (by omega)).mono ?_
  rintro e w8 ⟨A8, n8, c8, rfl, hl8, _, _, hb8⟩
  have S8 := S7.keep hb8
  have hO8 := hO7.below hb8
  have hl58 := hl57.below hb8
  have hl68 := hl67.below hb8
  have hl78 := hl7.below hb8
  clear S7 hO7 hl57 hl67 hl7 c0 c1 c2'
  go_wp2_with fail
  refine (CH.out AO n cO _ hO8).mono ?_
  rintro e w9 ⟨rfl, hb9⟩
  have S9 := S8.keep hb9
  have hO9 := hO8.below hb9
  have hl59 := hl58.below hb9
  have hl69 := hl68.below hb9
  have hl79 := hl78.below hb9
  have hl89 := hl8.below hb9
  clear S8 hO8 hl58 hl68 hl78 hl8
  obtain ⟨d0, d1, d2⟩ := (S9.blk 2 rfl).cell3
  obtain ⟨e0, e1, e2⟩ := (S9.blk 4 rfl).cell3
  go_wp2_with fail
  refine (CR.out A n c _ (HRB.out _ S9.below)).mono ?_
  rintro e w10 ⟨rfl, rfl⟩
  go_wp2_with fail
  refine (show Calls Try.prog 21 #[.agg #[.int .i64 w3g, .int .i64 h3g, .slice A3 n3 c3], .agg #[.int .i64 w3g, .int .i64 h3g, .slice A4 n4 c4]] _ _ from sameG_refl ⟨w3g, h3g, bs3⟩ ▸ rsame_any ⟨w3g, h3g, bs3⟩ ⟨w3g, h3g, bs3⟩ A3 A4 n3 c3 n4 c4 _ (S9.rd 1 rfl) (S9.rd 3 rfl) (by omega)).mono ?_
  rintro e w11 ⟨rfl, hb11⟩
  have S11 := S9.keep hb11
  have hO11 := hO9.below hb11
  have k5 := hl59.below hb11
  have k6 := hl69.below hb11
  have k7 := hl79.below hb11
  have k8 := hl89.below hb11
  clear S9 hO9 hl59 hl69 hl79 hl89 d0 d1 d2 e0 e1 e2
  go_wp2_with fail
  refine (esame_le l5 A5 A6 n5 n6 c5 c6 _ k5 k6 (by have := Z5.out.1; omega) (fun e he => by have := Z5.out.2 e he; omega)).mono ?_
  rintro e w12 ⟨rfl, hb12⟩
  have S12 := S11.keep hb12
  have hO12 := hO11.below hb12
  have m7 := k7.below hb12
  have m8 := k8.below hb12
  clear S11 hO11 k5 k6 k7 k8
  go_wp2_with fail
  refine (esame_le l7 A7 A8 n7 n8 c7 c8 _ m7 m8 (by have := Z7.out.1; omega) (fun e he => by have := Z7.out.2 e he; omega)).mono ?_
  rintro e w13 ⟨rfl, hb13⟩
  have S13 := S12.keep hb13
  have hO13 := hO12.below hb13
  clear S12 hO12 m7 m8
  go_wp2_with fail
  refine (esame_le l AO A n n cO c _ hO13 (HRB.out _ S13.below) (by have := HLL.out; omega) (fun e he => by have := HM.out e he; omega)).mono ?_
  rintro e w14 ⟨rfl, hb14⟩
  go_wp2_with fail
  go_ret
  exact ⟨rfl, (S13.keep hb14).below⟩
end Go.Proofs.Ytfjdlbilnoojkaa
