/- The law LoomlogBack, walked. -/
import Derived.Test.YtfjdlbilnoojkaaAlive20z
import Derived.Test.YtfjdlbilnoojkaaFit20z
import Derived.Test.YtfjdlbilnoojkaaReplayz
import Derived.Test.YtfjdlbilnoojkaaShortz
import Derived.Test.YtfjdlbilnoojkaaMendsPz
import Derived.Test.YtfjdlbilnoojkaaLEmanyz
import Derived.Test.YtfjdlbilnoojkaaRowFlatz
import Derived.Test.YtfjdlbilnoojkaaRSamez
import Derived.Test.YtfjdlbilnoojkaaMg5z
import Derived.Test.YtfjdlbilnoojkaaMg6z
namespace Go.Proofs.Ytfjdlbilnoojkaa
open Go.RowKit

theorem sameG_r3 (g : Gd) : sameG g g = true := decide_eq_true ⟨rfl, rfl, rfl⟩
theorem shortL_pick (a h : Nat) (bs : List Bool) : shortL a bs h = pickL (rowsB a h bs) := by
  unfold shortL pickL rowsB
  rw [List.map_map]; rfl
theorem LE.zero {w : World} {g base tL tE : Nat} (h : Blk w g tL #[]) (hb : base ≤ g) : LE w base tL tE (.slice (some ⟨g, 0, none⟩) 0 0) 0 [] :=
  ⟨rfl, [], ⟨rfl, .inr ⟨g, 0, #[], rfl, hb, h, Nat.le_refl _, Nat.zero_le _, rfl, rfl⟩⟩, fun i q r h => by simp at h⟩
theorem LogR.take {w : World} {A : Option Addr} {n k : Nat} {l : List Ev} (h : LogR w A n l) (hk : k ≤ n) : LogR w A k (l.take k) := by
  refine ⟨by rw [List.length_take, h.len]; omega, fun hp => ?_⟩
  obtain ⟨b, o, hA, hlt, hc⟩ := h.2 (by omega)
  refine ⟨b, o, hA, hlt, fun i q r hi => hc i q r ?_⟩
  rw [List.getElem?_take] at hi
  split at hi
  · exact hi
  · cases hi
theorem LogR.drop {w : World} {b o n k : Nat} {l : List Ev} (h : LogR w (some ⟨b, o, none⟩) n l) (hk : k ≤ n) : LogR w (some ⟨b, o + k * 2, none⟩) (n - k) (l.drop k) := by
  refine ⟨by rw [List.length_drop, h.len], fun hp => ?_⟩
  obtain ⟨b', o', hA, hlt, hc⟩ := h.2 (by omega)
  injection hA with e
  injection e with e1 e2
  subst e1 e2
  refine ⟨b, o + k * 2, rfl, hlt, fun i q r hi => ?_⟩
  rw [List.getElem?_drop] at hi
  have h3 := hc (k + i) q r hi
  rw [show o + (k + i) * 2 = o + k * 2 + i * 2 by omega] at h3
  exact h3
theorem evn3 {w w0 : World} {base tE c0 : Nat} {A0 : Option Addr} {r : List Bool} (h : Rd w0 A0 r.length (r.map Value.bool)) (hb : Below w0.heap.size w0 w) (h1 : w0.heap.size ≤ base) :
    EvN w base tE [.int .u8 1, .slice A0 r.length c0, .int .u8 3, .slice none 0 0, .int .u8 2, .slice none 0 0] [((1 : Int), r), ((3 : Int), ([] : List Bool)), ((2 : Int), ([] : List Bool))] := by
  refine ⟨rfl, fun u hu => ?_, fun i q r' hi => ?_⟩
  · simp at hu
    rcases hu with rfl | rfl | rfl | rfl | rfl | rfl <;> rfl
  · rcases i with _ | _ | _ | i
    · simp at hi
      obtain ⟨rfl, rfl⟩ := hi
      refine ⟨rfl, A0, c0, rfl, h.below hb, fun b o hA hl => .inl ?_⟩
      obtain ⟨b2, o2, hA2, hlt2, _⟩ := h.at_ hl
      rw [hA] at hA2
      injection hA2 with e
      injection e with e1 _
      omega
    · simp at hi
      obtain ⟨rfl, rfl⟩ := hi
      exact ⟨rfl, none, 0, rfl, Rd.nil_, fun b o hA => by cases hA⟩
    · simp at hi
      obtain ⟨rfl, rfl⟩ := hi
      exact ⟨rfl, none, 0, rfl, Rd.nil_, fun b o hA => by cases hA⟩
    · simp at hi
set_option linter.unusedVariables false in
set_option maxHeartbeats 8000000 in
set_option maxRecDepth 100000 in
theorem lback_walk (g : Gd) (k0 : Int) (A : Option Addr) (n c : Nat) (w : World) (hr : Rd w A n (g.bits.map Value.bool)) (hnc : n ≤ c) :
    Calls Try.prog 7 #[.agg #[.int .i64 g.w, .int .i64 g.h, .slice A n c], .int .i64 k0] w fun e w' => e = .returned (.bool true) ∧ Below w.heap.size w w' := by
  obtain ⟨W, H, bs⟩ := g
  simp only at hr ⊢
  have hl : bs.length = n := by simpa using hr.len
  have S0 := (St.start w).box #[.int .i64 W, .int .i64 H, .slice A n c] 25
  simp only [List.nil_append] at S0
  have HAL := Lib.hid (fun u => alive20_any u)
  have HF1 := Lib.hid (fun u => fit20_any W H A n c u)
  by_cases h1 : chkP W H n = 0
  · rw [decide_eq_true h1] at HF1
    obtain ⟨a, h, rfl, rfl, ha1, ha, hh1, hh, hn⟩ := chkP_zero h1
    by_cases h60 : 60 < h
    · have hd60 : decide (60 < (h : Int)) = true := decide_eq_true (by omega)
      have hd60n : decide (60 < h) = true := decide_eq_true (by omega)
      clear h1 hr hl hn
      go_enter Try.func7, Try.ntmps7
      go_wp2_with fail
      refine (HAL.out _).mono ?_
      rintro e w1 ⟨rfl, hb1⟩
      have S1 := S0.keep hb1
      obtain ⟨c0, c1, c2⟩ := (S1.blk 0 rfl).cell3
      go_wp2_with fail
      refine (HF1.out _).mono ?_
      rintro e w2 ⟨rfl, hb2⟩
      have S2 := S1.keep hb2
      clear c0 c1 c2 hb1 hb2 S1
      obtain ⟨c0, c1, c2⟩ := (S2.blk 0 rfl).cell3
      go_wp2_with fail
      go_ret
      exact ⟨rfl, S2.below⟩
    have hd60 : decide (60 < (h : Int)) = false := decide_eq_false (by omega)
    have hd60n : decide (60 < h) = false := decide_eq_false (by omega)
    by_cases hk0 : k0 < 0
    · have hdk : decide (k0 < 0) = true := decide_eq_true hk0
      clear h1 hr hl hn
      go_enter Try.func7, Try.ntmps7
      go_wp2_with fail
      refine (HAL.out _).mono ?_
      rintro e w1 ⟨rfl, hb1⟩
      have S1 := S0.keep hb1
      obtain ⟨c0, c1, c2⟩ := (S1.blk 0 rfl).cell3
      go_wp2_with fail
      refine (HF1.out _).mono ?_
      rintro e w2 ⟨rfl, hb2⟩
      have S2 := S1.keep hb2
      clear c0 c1 c2 hb1 hb2 S1
      obtain ⟨c0, c1, c2⟩ := (S2.blk 0 rfl).cell3
      go_wp2_with fail
      go_ret
      exact ⟨rfl, S2.below⟩
    have hdk : decide (k0 < 0) = false := decide_eq_false hk0
    by_cases hkk : (h : Int) < k0
    · have hdh : decide ((h : Int) < k0) = true := decide_eq_true hkk
      clear h1 hr hl hn
      go_enter Try.func7, Try.ntmps7
      go_wp2_with fail
      refine (HAL.out _).mono ?_
      rintro e w1 ⟨rfl, hb1⟩
      have S1 := S0.keep hb1
      obtain ⟨c0, c1, c2⟩ := (S1.blk 0 rfl).cell3
      go_wp2_with fail
      refine (HF1.out _).mono ?_
      rintro e w2 ⟨rfl, hb2⟩
      have S2 := S1.keep hb2
      clear c0 c1 c2 hb1 hb2 S1
      obtain ⟨c0, c1, c2⟩ := (S2.blk 0 rfl).cell3
      go_wp2_with fail
      go_ret
      exact ⟨rfl, S2.below⟩
    obtain ⟨k, rfl⟩ : ∃ k : Nat, k0 = (k : Int) := ⟨k0.toNat, by omega⟩
    have hkh : k ≤ h := by omega
    have hlen : bs.length = h * a := hl.trans hn
    have hck : chkP a h bs.length = 0 := by rw [hl]; exact h1
    obtain ⟨R, hR⟩ : ∃ R, rowsB a h bs = R := ⟨_, rfl⟩
    have hRn : RowsN a R := hR ▸ rowsB_rows hlen
    have hRl : R.length = h := hR ▸ rowsB_len a h bs
    have hRne : R ≠ [] := by rintro rfl; simp at hRl; omega
    have hX : shortE a h bs = (pickL R, 0) := (shortE_ok hck).trans (by rw [← hR, shortL_pick])
    have hY : replayG a (pickL R) = (⟨a, h, bs⟩, 0) := by
      have hq := runE_pick ha1 ha (by omega) hRn
      rw [replayG_ok (by rw [hq]) (by rw [hq]; exact hRne), hq, ← hR, liftsG_rows hlen]
    have hZ : replayG a (moreL R k) = (⟨a, h, bs⟩, 0) := by
      have hq := runE_more ha1 ha (by omega) (by omega) (by omega : k ≤ R.length) hRn
      rw [replayG_ok (by rw [hq]) (by rw [hq]; exact hRne), hq, ← hR, liftsG_rows hlen]
    have hr0 : (R.getD 0 []).length = a := hRn _ (by
      rw [List.getD_eq_getElem?_getD, List.getElem?_eq_getElem (by omega)]
      exact List.getElem_mem _)
    have hp0 : (pickL R)[0]? = some ((1 : Int), R.getD 0 []) := by
      unfold pickL
      rw [List.getElem?_map, List.getD_eq_getElem?_getD, List.getElem?_eq_getElem (by omega)]; rfl
    have hpl : (pickL R).length = h := by unfold pickL; rw [List.length_map]; exact hRl
    have hmore : moreL R k = (pickL R).take k ++ [((1 : Int), R.getD 0 []), ((3 : Int), ([] : List Bool)), ((2 : Int), ([] : List Bool))] ++ (pickL R).drop k := rfl
    generalize hRR : R.getD 0 [] = r0 at *
    generalize moreL R k = lm at *
    generalize hL : pickL R = L at *
    subst hmore
    have HSH := Lib.hid (fun u (hu : Below w.heap.size w u) => show Calls Try.prog 15 #[.agg #[.int .i64 a, .int .i64 h, .slice A n c]] u (RetE (L, 0) u) from hX ▸ short_any a h bs A n c u (hr.below hu) hnc)
    have HRA := Lib.hid (fun (A' : Option Addr) (n' c' : Nat) u (h' : LogR u A' n' L) => show Calls Try.prog 13 #[.int .i64 a, .slice A' n' c'] u (RetG (⟨a, h, bs⟩, 0) u) from hY ▸ replay_any a L A' n' c' u h')
    have HRB := Lib.hid (fun (A' : Option Addr) (n' c' : Nat) u (lx : List Ev) (hx : lx = L.take k ++ [((1 : Int), r0), ((3 : Int), ([] : List Bool)), ((2 : Int), ([] : List Bool))] ++ L.drop k) (h' : LogR u A' n' lx) => show Calls Try.prog 13 #[.int .i64 a, .slice A' n' c'] u (RetG (⟨a, h, bs⟩, 0) u) from hZ ▸ hx ▸ replay_any a lx A' n' c' u h')
    have HSM := Lib.hid (fun (A' : Option Addr) (n' c' : Nat) u (hu : Below w.heap.size w u) (hr2 : Rd u A' n' (bs.map Value.bool)) => show Calls Try.prog 21 #[.agg #[.int .i64 a, .int .i64 h, .slice A' n' c'], .agg #[.int .i64 a, .int .i64 h, .slice A n c]] u (fun e w' => e = .returned (.bool true) ∧ Below u.heap.size u w') from sameG_r3 ⟨a, h, bs⟩ ▸ rsame_any ⟨a, h, bs⟩ ⟨a, h, bs⟩ A' A n' c' n c u hr2 (hr.below hu) (by
      have h3 := hr2.len
      rw [List.length_map] at h3
      rw [← h3, hlen]
      exact Nat.le_trans (Nat.mul_le_mul hh ha) (by decide)))
    obtain ⟨i0, hi, hz0, hz1, hz2⟩ := info_parts2 Try.infoEv
    have HBK := Lib.hid (fun u => lback_any u)
    have HP0 := Lib.hid hp0
    have HR0 := Lib.hid hr0
    have HPL := Lib.hid hpl
    have hd60 : decide (60 < (h : Int)) = false := decide_eq_false (by omega)
    have hd60n : decide (60 < h) = false := decide_eq_false (by omega)
    have hdk : decide ((k : Int) < 0) = false := decide_eq_false (by omega)
    have hdh : decide ((h : Int) < k) = false := decide_eq_false (by omega)
    have hdhn : decide (h < k) = false := decide_eq_false (by omega)
    clear hX hY hZ hr0 hp0 hpl hRR hL hRne hRl hRn hR hck hlen hn hl h1
    go_enter Try.func7, Try.ntmps7
    go_wp2_with fail
    refine (HAL.out _).mono ?_
    rintro e w1 ⟨rfl, hb1⟩
    have S1 := S0.keep hb1
    obtain ⟨c0, c1, c2⟩ := (S1.blk 0 rfl).cell3
    go_wp2_with fail
    refine (HF1.out _).mono ?_
    rintro e w2 ⟨rfl, hb2⟩
    have S2 := S1.keep hb2
    clear c0 c1 c2 hb1 hb2 S1
    obtain ⟨c0, c1, c2⟩ := (S2.blk 0 rfl).cell3
    go_wp2_with fail
    refine (HSH.out _ S2.below).mono ?_
    rintro e w5 ⟨Al, nl, cl, rfl, hll, hnl, hcl, hb5⟩
    have S5 := S2.keep hb5
    obtain rfl : h = nl := by have h3 : L.length = nl := hll.len; have h4 := HPL.out; omega
    obtain ⟨b, o, rfl, hbl, hcells⟩ := hll.2 (by omega)
    clear hcells
    clear c0 c1 c2 S2 hb5
    obtain ⟨c0, c1, c2⟩ := (S5.blk 0 rfl).cell3
    go_wp2_with fail
    refine (HRA.out _ h cl _ hll).mono ?_
    rintro e w6 ⟨A6, n6, c6, rfl, hown6, hb6⟩
    have S6 := ((S5.keep hb6).addRd (rd_of_own hown6)).box #[.int .i64 a, .int .i64 h, .slice A6 n6 c6] 25
    have hl6 := (hll.below hb6).below ((Below.refl _ _).alloc (Nat.le_refl _) (.cells #[.int .i64 a, .int .i64 h, .slice A6 n6 c6] 25))
    simp only [List.cons_append, List.nil_append] at S6
    clear c0 c1 c2 S5 hb6 hown6
    obtain ⟨c0, c1, c2⟩ := (S6.blk 0 rfl).cell3
    obtain ⟨d0, d1, d2⟩ := (S6.blk 2 rfl).cell3
    have hhn : decide ((h : Int) = h) = true := decide_eq_true rfl
    go_wp2_with fail
    refine (HSM.out A6 n6 c6 _ S6.below (S6.rd 1 rfl)).mono ?_
    rintro e w7 ⟨rfl, hb7⟩
    have S7 := (S6.keep hb7).sub (L' := [Fact.blk w.heap.size 25 #[.int .i64 a, .int .i64 h, .slice A n c]]) (by simp)
    have hl7 := hl6.below hb7
    have hle7 := LE.zero (tE := 4) (Blk.new w7 59 #[]) (Nat.le_refl _)
    have hnn7 : 0 + k ≤ 1048576 := by omega
    obtain ⟨f0, A0, cx, f1, rd0⟩ := hl7.lit HP0.out
    rw [Nat.zero_mul, Nat.add_zero] at f0
    rw [Nat.zero_mul, Nat.add_zero, HR0.out] at f1
    have hb7s := hl7.base (by omega)
    clear c0 c1 c2 d0 d1 d2 S6 hb7 hll hl6
    go_wp2_with (at_builtin; go_loud (refine wpList_evs_log _ rfl (.tmp 68) (.tmp 71) 22 rfl w7.heap.size 59 4 i0 (.agg #[.int .u8 0, .slice none 0 0]) Try.underlying22 hi hz0 hz1 hz2 rfl (by decide) (.slice (some ⟨w7.heap.size, 0, none⟩) 0 0) 0 [] rfl hle7 (some ⟨b, o, none⟩) k cl (L.take k) w7 rfl (hl7.take hkh) (below_alloc1 w7 _) (Nat.le_refl _) hnn7 (by simp) ?_))
    intro A8 c8 w8 hle8 hgr8 hown8
    have hb8 := (below_alloc1 w7 (.cells #[] 59)).grown hgr8 (by simp) hown8
    have S8 := S7.keep hb8
    have e0 := (hb8.cell (p := ⟨b, o, none⟩) hb7s).trans f0
    have e1 := (hb8.cell (p := ⟨b, o + 1, none⟩) hb7s).trans f1
    have hle8d : LE w8.drew w7.heap.size 59 4 (.slice A8 k c8) k (L.take k) := hle8
    have hnn8 : k + 3 ≤ 1048576 := by omega
    have hh0 : 0 < h := hh1
    have hh0i : (0 : Int) < (h : Int) := by omega
    clear hle7 hgr8 hown8 hnn7
    go_wp2_with fail
    go_region_law (first
      | (go_simp
         go_at_call 31
         refine (HBK.out w8.drew).mono ?_
         rintro e w9 ⟨rfl, hb9⟩
         have hb89 : Below w7.heap.size w7 w9 := hb8.drew.trans (hb9.mono hb8.size)
         have e0' := (hb89.cell (p := ⟨b, o, none⟩) hb7s).trans f0
         have e1' := (hb89.cell (p := ⟨b, o + 1, none⟩) hb7s).trans f1
         have hle9 := hle8d.below hb9
         have hle9a := Lib.hid (fun ob => hle9.below (below_alloc1 w9 ob))
         have hev9 := Lib.hid (fun ob => HR0.out ▸ evn3 (tE := 4) (c0 := cx) rd0 (hb89.alloc hb89.size ob) (Nat.le_refl _))
         have hsz9 := Lib.hid (fun ob => Nat.le_trans hb89.size (below_alloc1 w9 ob).size))
      | (refine step_evs _ rfl (.tmp 73) (.tmp 79) 22 rfl w7.heap.size 59 4 i0 (.agg #[.int .u8 0, .slice none 0 0]) Try.underlying22 hi hz0 hz1 hz2 rfl (by decide) (.slice A8 k c8) k _ rfl (hle9a.out _) ⟨w9.heap.size, 0, none⟩ 3 3 _ _ rfl rfl (hev9.out _) (World.news_of_block (Blk.new w9 _ _)) hnn8 (hsz9.out _) ?_; intro A10 c10 w10 hle10 hgr10 hown10)
      | fail)
    all_goals
      have hb10 := (hb89.alloc hb89.size _).grown hgr10 (hsz9.out _) hown10
      have S10 := S7.keep hb10
      have hl10 := hle10
      clear S8 e0 e1 e0' e1' hle8d hle9 hle9a hev9 hsz9 hle8 hgr10 hown10 hb8 hb89 hle10 f0 f1
      have hnn10 : k + 3 + (h - k) ≤ 1048576 := by omega
      obtain ⟨c0, c1, c2⟩ := (S10.blk 0 rfl).cell3
      by_cases hck : cl = k
      · subst hck
        obtain rfl : h = cl := by omega
        have hdr : LogR w7 (some ⟨b, o, none⟩) (h - h) (L.drop h) := by
          rw [List.drop_eq_nil_of_le (Nat.le_of_eq HPL.out), Nat.sub_self]
          exact LogR.nil _ _
        go_wp2_with (at_builtin; go_loud (refine wpList_evs_log _ rfl (.tmp 81) (.tmp 84) 22 rfl w7.heap.size 59 4 i0 (.agg #[.int .u8 0, .slice none 0 0]) Try.underlying22 hi hz0 hz1 hz2 rfl (by decide) (.slice A10 (h + 3) c10) (h + 3) _ rfl hl10 (some ⟨b, o, none⟩) (h - h) (h - h) (L.drop h) w7 (by simp [Act.eval]) hdr hb10 (Nat.le_refl _) hnn10 hb10.size ?_))
        intro A11 c11 w11 hle11 hgr11 hown11
        have hb11 := hb10.grown hgr11 hb10.size hown11
        have S11 := S7.keep hb11
        have hl11 := hle11.read
        clear c0 c1 c2 S10 hl10 hb10 hle11 hgr11 hown11 hb11 hdr
        obtain ⟨c0, c1, c2⟩ := (S11.blk 0 rfl).cell3
        go_wp2_with fail
        refine (HRB.out A11 _ c11 _ _ (by simp) hl11).mono ?_
        rintro e w12 ⟨A12, n12, c12, rfl, hown12, hb12⟩
        have S12 := ((S11.keep hb12).addRd (rd_of_own hown12)).box #[.int .i64 a, .int .i64 h, .slice A12 n12 c12] 25
        simp only [List.cons_append, List.nil_append] at S12
        clear c0 c1 c2 S11 hb12 hown12 hl11
        obtain ⟨c0, c1, c2⟩ := (S12.blk 0 rfl).cell3
        obtain ⟨d0, d1, d2⟩ := (S12.blk 2 rfl).cell3
        go_wp2_with fail
        refine (HSM.out A12 n12 c12 _ S12.below (S12.rd 1 rfl)).mono ?_
        rintro e w13 ⟨rfl, hb13⟩
        have S13 := S12.keep hb13
        go_wp2_with fail
        go_ret
        exact ⟨rfl, S13.below⟩
      · have hdr := hl7.drop hkh
        go_wp2_with (at_builtin; go_loud (refine wpList_evs_log _ rfl (.tmp 81) (.tmp 84) 22 rfl w7.heap.size 59 4 i0 (.agg #[.int .u8 0, .slice none 0 0]) Try.underlying22 hi hz0 hz1 hz2 rfl (by decide) (.slice A10 (k + 3) c10) (k + 3) _ rfl hl10 (some ⟨b, o + k * 2, none⟩) (h - k) (cl - k) (L.drop k) w7 (by simp [Act.eval]) hdr hb10 (Nat.le_refl _) hnn10 hb10.size ?_))
        intro A11 c11 w11 hle11 hgr11 hown11
        have hb11 := hb10.grown hgr11 hb10.size hown11
        have S11 := S7.keep hb11
        have hl11 := hle11.read
        clear c0 c1 c2 S10 hl10 hb10 hle11 hgr11 hown11 hb11 hdr
        obtain ⟨c0, c1, c2⟩ := (S11.blk 0 rfl).cell3
        go_wp2_with fail
        refine (HRB.out A11 _ c11 _ _ (by simp) hl11).mono ?_
        rintro e w12 ⟨A12, n12, c12, rfl, hown12, hb12⟩
        have S12 := ((S11.keep hb12).addRd (rd_of_own hown12)).box #[.int .i64 a, .int .i64 h, .slice A12 n12 c12] 25
        simp only [List.cons_append, List.nil_append] at S12
        clear c0 c1 c2 S11 hb12 hown12 hl11
        obtain ⟨c0, c1, c2⟩ := (S12.blk 0 rfl).cell3
        obtain ⟨d0, d1, d2⟩ := (S12.blk 2 rfl).cell3
        go_wp2_with fail
        refine (HSM.out A12 n12 c12 _ S12.below (S12.rd 1 rfl)).mono ?_
        rintro e w13 ⟨rfl, hb13⟩
        have S13 := S12.keep hb13
        go_wp2_with fail
        go_ret
        exact ⟨rfl, S13.below⟩
  · rw [decide_eq_false h1] at HF1
    clear h1 hr hl
    go_enter Try.func7, Try.ntmps7
    go_wp2_with fail
    refine (HAL.out _).mono ?_
    rintro e w1 ⟨rfl, hb1⟩
    have S1 := S0.keep hb1
    obtain ⟨c0, c1, c2⟩ := (S1.blk 0 rfl).cell3
    go_wp2_with fail
    refine (HF1.out _).mono ?_
    rintro e w2 ⟨rfl, hb2⟩
    have S2 := S1.keep hb2
    clear c0 c1 c2 hb1 hb2 S1
    go_wp2_with fail
    go_ret
    exact ⟨rfl, S2.below⟩
end Go.Proofs.Ytfjdlbilnoojkaa
