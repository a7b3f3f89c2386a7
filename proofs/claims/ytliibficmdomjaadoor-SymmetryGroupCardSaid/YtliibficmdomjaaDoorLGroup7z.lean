/- The law SymmetryGroup, walked: it answers true and turns nothing that was there, for any grid. -/
import Derived.Test.YtliibficmdomjaaDoorLaw7Kz
namespace Go.Proofs.YtliibficmdomjaaDoor
open Go.RowKit

set_option maxHeartbeats 4000000 in
set_option maxRecDepth 100000 in
theorem group7_off_0 (g : Gd) (A0 : Option Addr) (n0 c0 : Nat) (w : World) (hr : Rd w A0 n0 (g.bits.map Value.bool)) (hl : g.bits.length = n0)  (hv : valid7B g = false) :
    Calls Tryd.prog 5 #[.agg #[.int .i64 g.w, .int .i64 g.h, .slice A0 n0 c0]] w fun e w' => e = .returned (.bool true) ∧ Below w.heap.size w w' := by
  have KA := Lib.hid (fun W => alive_any W)
  have K0 := Lib.hid (fun W => valid7_to g hv A0 n0 c0 hl W)
  clear hv
  have S0 := ((St.start w).addRd hr).box #[.int .i64 g.w, .int .i64 g.h, .slice A0 n0 c0] 24
  simp only [List.nil_append, List.cons_append] at S0
  go_enter Tryd.func5, Tryd.ntmps5
  obtain ⟨ca0, ca1, ca2⟩ := (S0.blk 1 rfl).cell3
  go_wp2_with fail
  refine (K0.out _).mono ?_
  rintro e w1 ⟨rfl, hb1⟩
  have S1 := S0.keep hb1
  clear ca0 ca1 ca2
  go_wp2_with fail
  refine (KA.out _).mono ?_
  rintro e w2 ⟨rfl, hb2⟩
  have S2 := S1.keep hb2
  clear S1
  go_wp2_with fail
  go_ret
  exact ⟨rfl, S2.below⟩

set_option linter.unusedSimpArgs false in
set_option maxHeartbeats 4000000 in
set_option maxRecDepth 100000 in
theorem group7_main (g : Gd) (A0 : Option Addr) (n0 c0 : Nat) (w : World) (hr : Rd w A0 n0 (g.bits.map Value.bool)) (hc : n0 ≤ c0) (hv : valid7B g = true) :
    Calls Tryd.prog 5 #[.agg #[.int .i64 g.w, .int .i64 g.h, .slice A0 n0 c0]] w fun e w' => e = .returned (.bool true) ∧ Below w.heap.size w w' := by
  have h0 : startG g = 0 := by unfold valid7B at hv; rw [decide_eq_true_eq] at hv; exact hv.1
  have hl : g.bits.length = n0 := by simpa using hr.len
  have HV := Lib.hid (fun W => valid7_to g hv A0 n0 c0 hl W)
  have hcg := (startG_zero h0).1
  have HA := Lib.hid (fun A n c W h hc => all_to g h0 rfl A n c W h hc)
  have HH := Lib.hid (fun (k : Nat) (hk : k < 16) A n c W h hc => has_to g h0 hk A n c W h hc)
  have HP := Lib.hid (fun (k : Nat) (hk : k < 16) A n c W h => apply_to g (k : Nat) (applyG_ok h0 hk) A n c W h)
  have HO := Lib.hid (fun (k : Nat) (hk : k < 16) r (hR : OffR g (appT g k) r) A A' n c n' c' W h h' hc hc' => off_to g (appT g k) r hR A A' n c n' c' W h h' hc hc')
  have HI := Lib.hid (fun (m : Nat) (hm : m < 16) W => inverse_to m hm rfl W)
  have HC := Lib.hid (fun (m n : Nat) (hm : m < 16) (hn : n < 16) W => compose_to m n hm hn rfl W)
  have HAt := Lib.hid (fun (k : Nat) (hk : k < (alkL g g).length) => alk_at hcg hcg hk)
  have HInv := Lib.hid (fun (m : Nat) (hm : m < 16) (h : (m : Int) ∈ alkL g g) => alk_inv_mem hcg hcg hm h)
  have HCmp := Lib.hid (fun (m n : Nat) (hm : m < 16) (hn : n < 16) (h : (m : Int) ∈ alkL g g) (h' : (n : Int) ∈ alkL g g) => alk_comp_mem hcg hm hn h h')
  have HMo := Lib.hid (fun (i : Nat) (h : i + 1 < (alkL g g).length) => alk_mono (g := g) (g' := g) h)
  have hlen := alk_len (g := g) (g' := g)
  obtain ⟨⟨l1, hl1⟩, h16⟩ := alk_group hcg
  have hpos : 1 ≤ (alkL g g).length := by rw [hl1]; simp
  have hL0 : (alkL g g).getD 0 0 = 0 := by rw [hl1]; rfl
  clear hl1 l1 hv h0 hcg hl
  generalize hLL : alkL g g = L at *
  clear hLL
  have S0 := ((St.start w).addRd hr).box #[.int .i64 g.w, .int .i64 g.h, .slice A0 n0 c0] 24
  simp only [List.nil_append, List.cons_append] at S0
  clear hr
  go_enter Tryd.func5, Tryd.ntmps5
  obtain ⟨ca0, ca1, ca2⟩ := (S0.blk 1 rfl).cell3
  go_wp2_with fail
  refine (HV.out _).mono ?_
  rintro e w1 ⟨rfl, hb1⟩
  have S1 := S0.keep hb1
  clear ca0 ca1 ca2
  obtain ⟨ca0, ca1, ca2⟩ := (S1.blk 1 rfl).cell3
  go_wp2_with fail
  refine (HA.out _ _ _ _ (S1.rd 0 rfl) hc).mono ?_
  rintro e w2 ⟨AL, nL, cL, rfl, hownL, hb2⟩
  have hnL : L.length = nL := by have := hownL.1; simpa using this
  have hcL := own_le hownL
  have S2 := (S1.keep hb2).addRd (rd_of_own hownL)
  simp only [List.nil_append, List.cons_append] at S2
  obtain ⟨gL, rfl, _, _, _⟩ := own_form hownL (by omega)
  clear S1 ca0 ca1 ca2 hownL
  rw [hnL] at hlen hpos h16 HAt HMo
  have HCe := Lib.hid (fun wz (h : Rd wz (some ⟨gL, 0, none⟩) nL (L.map (Value.int .i64))) (k : Nat) (hk : k < nL) => cell_int h hk)
  have h16a : ((16 : Nat) : Int).tmod (nL : Int) = 0 := by rw [Int.tmod_eq_emod_of_nonneg (by omega)]; have := congrArg (fun q : Nat => (q : Int)) h16; simpa using this
  have h16b : (16 : Int).tmod (nL : Int) = 0 := h16a
  have h16c : (16 : Int) % (nL : Int) = 0 := by have := congrArg (fun q : Nat => (q : Int)) h16; simpa using this
  have hz1 : ¬ (nL : Int) = 0 := by omega
  have hz2 : ¬ nL = 0 := by omega
  have hp1 : (1 : Int) ≤ (nL : Int) := by omega
  have hp2 : (nL : Int) ≤ 16 := by omega
  have ce := HCe.out _ (S2.rd 2 rfl) 0 (by omega)
  rw [hL0] at ce
  simp only [Nat.add_zero] at ce
  have HLen := Lib.hid hlen
  have HPos := Lib.hid hpos
  clear hlen hpos hL0 hnL
  go_wp2_with fail
  clear ce h16a h16b h16c
  have HBase := S2.below
  go_loopw [5] (fun i wr => ∃ k : Nat, k ≤ 16 ∧ i = .int .i64 k ∧ St w [.rd A0 n0 (g.bits.map Value.bool), .blk w.heap.size 24 #[.int .i64 g.w, .int .i64 g.h, .slice A0 n0 c0], .rd (some ⟨gL, 0, none⟩) nL (L.map (Value.int .i64))] wr) (fun i _ => 16 - (intOf i).toNat)
  case atStart => exact ⟨0, Nat.zero_le _, rfl, S2⟩
  case round =>
    clear S2 HBase
    obtain ⟨k, hk, rfl, S⟩ := hrel
    by_cases hlt : k < 16
    · have HHk := Lib.hid (fun A n c W h hc => HH.out k hlt A n c W h hc)
      have HPk := Lib.hid (fun A n c W h => HP.out k hlt A n c W h)
      have HOk := Lib.hid (fun r hR A A' n c n' c' W h h' hc hc' => HO.out k hlt r hR A A' n c n' c' W h h' hc hc')
      generalize appT g k = gx at *
      obtain ⟨c0a, c1a, c2a⟩ := (S.blk 1 rfl).cell3
      go_wp2_with fail
      refine (HHk.out _ _ _ _ (S.rd 0 rfl) hc).mono ?_
      rintro e w3 ⟨x, y, ee, rfl, hOff, hcase, hb3⟩
      have HOff := Lib.hid (fun A A' n c n' c' W h h' hc hc' => HOk.out _ hOff A A' n c n' c' W h h' hc hc')
      clear HHk HOk
      have hx : (ee = 0 ∧ (k : Int) ∈ L) ∨ (ee = 6 ∧ x = 0 ∧ y = 0 ∧ (k : Int) ∉ L) := hcase
      clear hcase hOff
      rcases hx with ⟨rfl, hm⟩ | ⟨rfl, rfl, rfl, hm⟩
      · simp only [decide_true, show decide ((6 : Int) = 0) = false from rfl]
        have HM := Lib.hid hm
        clear hm
        have T3 := (S.keep hb3).box #[.int .i64 x, .int .i64 y] 43
        simp only [List.nil_append, List.cons_append] at T3
        clear S c0a c1a c2a hb3
        obtain ⟨c0a, c1a, c2a⟩ := (T3.blk 1 rfl).cell3
        go_wp2_with fail
        refine (HPk.out _ _ _ _ (T3.rd 0 rfl)).mono ?_
        rintro e w4 ⟨A4, n4, cc4, rfl, hown4, hb4⟩
        have hc4 := own_le hown4
        have T4 := ((T3.keep hb4).addRd (rd_of_own hown4)).box #[.int .i64 gx.w, .int .i64 gx.h, .slice A4 n4 cc4] 24
        simp only [List.nil_append, List.cons_append] at T4
        clear T3 c0a c1a c2a hown4 hb4
        obtain ⟨c0a, c1a, c2a⟩ := (T4.blk 1 rfl).cell3
        obtain ⟨d0a, d1a, d2a⟩ := (T4.blk 5 rfl).cell3
        go_wp2_with fail
        refine (HOff.out _ _ _ _ _ _ _ (T4.rd 0 rfl) (T4.rd 4 rfl) hc hc4).mono ?_
        rintro e w5 ⟨rfl, hb5⟩
        have T5 := (T4.keep hb5).box #[.int .i64 x, .int .i64 y] 43
        simp only [List.nil_append, List.cons_append] at T5
        clear T4 c0a c1a c2a d0a d1a d2a hb5
        go_wp2_with fail
        refine (place_z L k _ _ _ _ (T5.rd 2 rfl) (by have := HLen.out; omega)).mono ?_
        rintro e w6 ⟨z, rfl, hz, hz', hb6⟩
        have hzz : 0 ≤ z := hz HM.out
        have T6 := T5.keep hb6
        clear T5 hz hz' hb6
        obtain ⟨c0a, c1a⟩ := (T6.blk 3 rfl).cellP
        obtain ⟨d0a, d1a⟩ := (T6.blk 6 rfl).cellP
        have T7 := T6.sub (L' := [.rd A0 n0 (g.bits.map Value.bool), .blk w.heap.size 24 #[.int .i64 g.w, .int .i64 g.h, .slice A0 n0 c0], .rd (some ⟨gL, 0, none⟩) nL (L.map (Value.int .i64))]) (by simp)
        go_wp2_with fail
        go_roundw
        case rel => exact ⟨k + 1, by omega, by go_num, T7⟩
        case measure => first | (simp [intOf]; done) | (simp [intOf]; omega)
      · simp only [decide_true, show decide ((6 : Int) = 0) = false from rfl]
        have HM := Lib.hid hm
        clear hm
        have T3 := (S.keep hb3).box #[.int .i64 0, .int .i64 0] 43
        simp only [List.nil_append, List.cons_append] at T3
        clear S c0a c1a c2a hb3
        obtain ⟨c0a, c1a, c2a⟩ := (T3.blk 1 rfl).cell3
        go_wp2_with fail
        refine (HPk.out _ _ _ _ (T3.rd 0 rfl)).mono ?_
        rintro e w4 ⟨A4, n4, cc4, rfl, hown4, hb4⟩
        have hc4 := own_le hown4
        have T4 := ((T3.keep hb4).addRd (rd_of_own hown4)).box #[.int .i64 gx.w, .int .i64 gx.h, .slice A4 n4 cc4] 24
        simp only [List.nil_append, List.cons_append] at T4
        clear T3 c0a c1a c2a hown4 hb4
        obtain ⟨c0a, c1a, c2a⟩ := (T4.blk 1 rfl).cell3
        obtain ⟨d0a, d1a, d2a⟩ := (T4.blk 5 rfl).cell3
        go_wp2_with fail
        refine (HOff.out _ _ _ _ _ _ _ (T4.rd 0 rfl) (T4.rd 4 rfl) hc hc4).mono ?_
        rintro e w5 ⟨rfl, hb5⟩
        have T5 := (T4.keep hb5).box #[.int .i64 0, .int .i64 0] 43
        simp only [List.nil_append, List.cons_append] at T5
        clear T4 c0a c1a c2a d0a d1a d2a hb5
        go_wp2_with fail
        refine (place_z L k _ _ _ _ (T5.rd 2 rfl) (by have := HLen.out; omega)).mono ?_
        rintro e w6 ⟨z, rfl, hz, hz', hb6⟩
        have hzz : z < 0 := hz' HM.out
        have T6 := T5.keep hb6
        clear T5 hz hz' hb6
        obtain ⟨c0a, c1a⟩ := (T6.blk 3 rfl).cellP
        obtain ⟨d0a, d1a⟩ := (T6.blk 6 rfl).cellP
        have T7 := T6.sub (L' := [.rd A0 n0 (g.bits.map Value.bool), .blk w.heap.size 24 #[.int .i64 g.w, .int .i64 g.h, .slice A0 n0 c0], .rd (some ⟨gL, 0, none⟩) nL (L.map (Value.int .i64))]) (by simp)
        go_wp2_with fail
        go_roundw
        case rel => exact ⟨k + 1, by omega, by go_num, T7⟩
        case measure => first | (simp [intOf]; done) | (simp [intOf]; omega)
    · have hk16 : k = 16 := by omega
      subst hk16
      clear hlt hk
      go_wp2_with fail
      go_loopw [13] (fun i wr => ∃ k : Nat, k ≤ nL ∧ i = .int .i64 k ∧ St w [.rd A0 n0 (g.bits.map Value.bool), .blk w.heap.size 24 #[.int .i64 g.w, .int .i64 g.h, .slice A0 n0 c0], .rd (some ⟨gL, 0, none⟩) nL (L.map (Value.int .i64))] wr) (fun i _ => nL - (intOf i).toNat)
      case atStart => exact ⟨0, Nat.zero_le _, rfl, S⟩
      case round =>
        clear S
        obtain ⟨i, hi, rfl, S⟩ := hrel
        by_cases hlt : i < nL
        · obtain ⟨m, hm, _, hgd, hmem⟩ := HAt.out i hlt
          have ci := HCe.out _ (S.rd 2 rfl) i hlt
          rw [hgd] at ci
          simp only [Nat.zero_add] at ci
          have HMem := Lib.hid hmem
          have HGd := Lib.hid hgd
          have hInv := Lib.hid (HInv.out m hm hmem)
          have HIm := Lib.hid (fun W => HI.out m hm W)
          clear hmem hgd
          generalize invN m = v at *
          have hi1 : (0 : Int) ≤ (i : Int) := by omega
          have hi2 : (i : Int) < (nL : Int) := by omega
          go_wp2_with fail
          refine (HIm.out _).mono ?_
          rintro e w3 ⟨rfl, hb3⟩
          have T3 := S.keep hb3
          clear S ci hb3
          have HPl := Lib.hid (fun W h => place_z L v (some ⟨gL, 0, none⟩) nL cL W h (by have := HLen.out; omega))
          rcases Nat.eq_zero_or_pos i with hi0 | hi0
          · subst hi0
            go_wp2_with fail
            have SD := T3.drew
            refine wp_region_held_drew (S := (fun _ => True)) (by kernel_rfl) ?_ (fun hHeld => ?_)
            · (try dsimp only); try trivial
            refine man_take 0 123 (v := ?_) ⟨_, rfl, rfl⟩ (by kernel_rfl) (by kernel_rfl) (by kernel_rfl) (fun _ _ _ h => h) (by assumption) ?_ ?_
            rotate_left
            · intro oi ho; cases ho; refine ⟨by rfl, ?_⟩; intro w hSw; (try dsimp only at hSw); go_simp; try with_reducible rfl
            (try simp only [Act.put, List.setIfInBounds_toArray, List.set_cons_zero, List.set_cons_succ])
            refine man_take 1 124 (v := ?_) ⟨_, rfl, rfl⟩ (by kernel_rfl) (by kernel_rfl) (by kernel_rfl) (fun _ _ _ h => h) (by assumption) ?_ ?_
            rotate_left
            · intro oi ho; cases ho; refine ⟨by rfl, ?_⟩; intro w hSw; (try dsimp only at hSw); go_simp; try with_reducible rfl
            (try simp only [Act.put, List.setIfInBounds_toArray, List.set_cons_zero, List.set_cons_succ])
            refine man_take 2 125 (v := ?_) ⟨_, rfl, rfl⟩ (by kernel_rfl) (by kernel_rfl) (by kernel_rfl) (fun _ _ _ h => h) (by assumption) ?_ ?_
            rotate_left
            · intro oi ho; cases ho; refine ⟨by rfl, ?_⟩; intro w hSw; (try dsimp only at hSw); go_simp; try with_reducible rfl
            (try simp only [Act.put, List.setIfInBounds_toArray, List.set_cons_zero, List.set_cons_succ])
            refine man_take 3 126 (v := ?_) ⟨_, rfl, rfl⟩ (by kernel_rfl) (by kernel_rfl) (by kernel_rfl) (fun _ _ _ h => h) (by assumption) ?_ ?_
            rotate_left
            · intro oi ho; cases ho; refine ⟨by rfl, ?_⟩; intro w hSw; (try dsimp only at hSw); go_simp; try with_reducible rfl
            (try simp only [Act.put, List.setIfInBounds_toArray, List.set_cons_zero, List.set_cons_succ])
            refine man_take 4 127 (v := ?_) ⟨_, rfl, rfl⟩ (by kernel_rfl) (by kernel_rfl) (by kernel_rfl) (fun _ _ _ h => h) (by assumption) ?_ ?_
            rotate_left
            · intro oi ho; cases ho; refine ⟨by rfl, ?_⟩; intro w hSw; (try dsimp only at hSw); go_simp; try with_reducible rfl
            (try simp only [Act.put, List.setIfInBounds_toArray, List.set_cons_zero, List.set_cons_succ])
            refine man_take 5 128 (v := ?_) ⟨_, rfl, rfl⟩ (by kernel_rfl) (by kernel_rfl) (by kernel_rfl) (fun _ _ _ h => h) (by assumption) ?_ ?_
            rotate_left
            · intro oi ho; cases ho; refine ⟨by rfl, ?_⟩; intro w hSw; (try dsimp only at hSw); go_simp; try with_reducible rfl
            (try simp only [Act.put, List.setIfInBounds_toArray, List.set_cons_zero, List.set_cons_succ])
            refine man_take 6 129 (v := ?_) ⟨_, rfl, rfl⟩ (by kernel_rfl) (by kernel_rfl) (by kernel_rfl) (fun _ _ _ h => h) (by assumption) ?_ ?_
            rotate_left
            · intro oi ho; cases ho; refine ⟨by rfl, ?_⟩; intro w hSw; (try dsimp only at hSw); go_simp; try with_reducible rfl
            (try simp only [Act.put, List.setIfInBounds_toArray, List.set_cons_zero, List.set_cons_succ])
            refine man_run 7 rfl (by kernel_rfl) (fun K hK => ?_)
            go_simp
            refine (HPl.out _ (SD.rd 2 rfl)).mono ?_
            rintro e w6 ⟨z, rfl, hz, _, hb6⟩
            have hzz := hz hInv.out
            have hzl : ¬ z < 0 := by omega
            have hzd : decide (z < 0) = false := by simp; omega
            replace SD := SD.keep hb6
            clear hz hb6
            go_wp2_with fail
            refine hK.out _ _ ?_ (fun hHeld => ?_)
            · (try dsimp only); try trivial
            clear hK K
            (try simp only [Act.put, List.setIfInBounds_toArray, List.set_cons_zero, List.set_cons_succ])
            refine man_take 8 131 (v := ?_) ⟨_, rfl, rfl⟩ (by kernel_rfl) (by kernel_rfl) (by kernel_rfl) (fun _ _ _ h => h) (by assumption) ?_ ?_
            rotate_left
            · intro oi ho; cases ho; refine ⟨by rfl, ?_⟩; intro w hSw; (try dsimp only at hSw); go_simp; try with_reducible rfl
            (try simp only [Act.put, List.setIfInBounds_toArray, List.set_cons_zero, List.set_cons_succ])
            refine man_take 9 132 (v := ?_) ⟨_, rfl, rfl⟩ (by kernel_rfl) (by kernel_rfl) (by kernel_rfl) (fun _ _ _ h => h) (by assumption) ?_ ?_
            rotate_left
            · intro oi ho; cases ho; refine ⟨by rfl, ?_⟩; intro w hSw; (try dsimp only at hSw); go_simp; try with_reducible rfl
            (try simp only [Act.put, List.setIfInBounds_toArray, List.set_cons_zero, List.set_cons_succ])
            refine man_take 10 133 (v := ?_) ⟨_, rfl, rfl⟩ (by kernel_rfl) (by kernel_rfl) (by kernel_rfl) (fun _ _ _ h => h) (by assumption) ?_ ?_
            rotate_left
            · intro oi ho; cases ho; refine ⟨by rfl, ?_⟩; intro w hSw; (try dsimp only at hSw); go_simp; try with_reducible rfl
            (try simp only [Act.put, List.setIfInBounds_toArray, List.set_cons_zero, List.set_cons_succ])
            refine man_take 11 134 (v := ?_) ⟨_, rfl, rfl⟩ (by kernel_rfl) (by kernel_rfl) (by kernel_rfl) (fun _ _ _ h => h) (by assumption) ?_ ?_
            rotate_left
            · intro oi ho; cases ho; refine ⟨by rfl, ?_⟩; intro w hSw; (try dsimp only at hSw); go_simp; try with_reducible rfl
            (try simp only [Act.put, List.setIfInBounds_toArray, List.set_cons_zero, List.set_cons_succ])
            refine man_take 12 135 (v := ?_) ⟨_, rfl, rfl⟩ (by kernel_rfl) (by kernel_rfl) (by kernel_rfl) (fun _ _ _ h => h) (by assumption) ?_ ?_
            rotate_left
            · intro oi ho; cases ho; refine ⟨by rfl, ?_⟩; intro w hSw; (try dsimp only at hSw); go_simp; try with_reducible rfl
            (try simp only [Act.put, List.setIfInBounds_toArray, List.set_cons_zero, List.set_cons_succ])
            refine man_take 13 136 (v := ?_) ⟨_, rfl, rfl⟩ (by kernel_rfl) (by kernel_rfl) (by kernel_rfl) (fun _ _ _ h => h) (by assumption) ?_ ?_
            rotate_left
            · intro oi ho; cases ho; refine ⟨by rfl, ?_⟩; intro w hSw; (try dsimp only at hSw); go_simp; try with_reducible rfl
            (try simp only [Act.put, List.setIfInBounds_toArray, List.set_cons_zero, List.set_cons_succ])
            refine man_skip 14 137 ⟨_, rfl, rfl⟩ (by kernel_rfl) (by kernel_rfl) (by kernel_rfl) (fun _ _ _ h => h) (by assumption) ?_ ?_
            · intro oi ho; cases ho; rfl
            (try simp only [Act.put, List.setIfInBounds_toArray, List.set_cons_zero, List.set_cons_succ])
            refine man_skip 15 138 ⟨_, rfl, rfl⟩ (by kernel_rfl) (by kernel_rfl) (by kernel_rfl) (fun _ _ _ h => h) (by assumption) ?_ ?_
            · intro oi ho; cases ho; rfl
            (try simp only [Act.put, List.setIfInBounds_toArray, List.set_cons_zero, List.set_cons_succ])
            refine man_skip 16 139 ⟨_, rfl, rfl⟩ (by kernel_rfl) (by kernel_rfl) (by kernel_rfl) (fun _ _ _ h => h) (by assumption) ?_ ?_
            · intro oi ho; cases ho; rfl
            (try simp only [Act.put, List.setIfInBounds_toArray, List.set_cons_zero, List.set_cons_succ])
            refine man_skip 17 140 ⟨_, rfl, rfl⟩ (by kernel_rfl) (by kernel_rfl) (by kernel_rfl) (fun _ _ _ h => h) (by assumption) ?_ ?_
            · intro oi ho; cases ho; rfl
            (try simp only [Act.put, List.setIfInBounds_toArray, List.set_cons_zero, List.set_cons_succ])
            refine man_skip 18 141 ⟨_, rfl, rfl⟩ (by kernel_rfl) (by kernel_rfl) (by kernel_rfl) (fun _ _ _ h => h) (by assumption) ?_ ?_
            · intro oi ho; cases ho; rfl
            (try simp only [Act.put, List.setIfInBounds_toArray, List.set_cons_zero, List.set_cons_succ])
            refine man_skip 19 142 ⟨_, rfl, rfl⟩ (by kernel_rfl) (by kernel_rfl) (by kernel_rfl) (fun _ _ _ h => h) (by assumption) ?_ ?_
            · intro oi ho; cases ho; rfl
            (try simp only [Act.put, List.setIfInBounds_toArray, List.set_cons_zero, List.set_cons_succ])
            refine man_skip 20 143 ⟨_, rfl, rfl⟩ (by kernel_rfl) (by kernel_rfl) (by kernel_rfl) (fun _ _ _ h => h) (by assumption) ?_ ?_
            · intro oi ho; cases ho; rfl
            (try simp only [Act.put, List.setIfInBounds_toArray, List.set_cons_zero, List.set_cons_succ])
            refine man_skip 21 144 ⟨_, rfl, rfl⟩ (by kernel_rfl) (by kernel_rfl) (by kernel_rfl) (fun _ _ _ h => h) (by assumption) ?_ ?_
            · intro oi ho; cases ho; rfl
            (try simp only [Act.put, List.setIfInBounds_toArray, List.set_cons_zero, List.set_cons_succ])
            refine man_skip 22 145 ⟨_, rfl, rfl⟩ (by kernel_rfl) (by kernel_rfl) (by kernel_rfl) (fun _ _ _ h => h) (by assumption) ?_ ?_
            · intro oi ho; cases ho; rfl
            (try simp only [Act.put, List.setIfInBounds_toArray, List.set_cons_zero, List.set_cons_succ])
            refine man_skip 23 146 ⟨_, rfl, rfl⟩ (by kernel_rfl) (by kernel_rfl) (by kernel_rfl) (fun _ _ _ h => h) (by assumption) ?_ ?_
            · intro oi ho; cases ho; rfl
            (try simp only [Act.put, List.setIfInBounds_toArray, List.set_cons_zero, List.set_cons_succ])
            refine man_take 24 147 (v := ?_) ⟨_, rfl, rfl⟩ (by kernel_rfl) (by kernel_rfl) (by kernel_rfl) (fun _ _ _ h => h) (by assumption) ?_ ?_
            rotate_left
            · intro oi ho; cases ho; refine ⟨by rfl, ?_⟩; intro w hSw; (try dsimp only at hSw); go_simp; try with_reducible rfl
            (try simp only [Act.put, List.setIfInBounds_toArray, List.set_cons_zero, List.set_cons_succ])
            refine man_take 25 148 (v := ?_) ⟨_, rfl, rfl⟩ (by kernel_rfl) (by kernel_rfl) (by kernel_rfl) (fun _ _ _ h => h) (by assumption) ?_ ?_
            rotate_left
            · intro oi ho; cases ho; refine ⟨by rfl, ?_⟩; intro w hSw; (try dsimp only at hSw); go_simp; try with_reducible rfl
            (try simp only [Act.put, List.setIfInBounds_toArray, List.set_cons_zero, List.set_cons_succ])
            refine wpAnyH_done (by kernel_rfl) ?_ _
            go_wp2_with fail
            go_loopw [16] (fun q wr => ∃ k : Nat, k ≤ nL ∧ q = .int .i64 k ∧ St w [.rd A0 n0 (g.bits.map Value.bool), .blk w.heap.size 24 #[.int .i64 g.w, .int .i64 g.h, .slice A0 n0 c0], .rd (some ⟨gL, 0, none⟩) nL (L.map (Value.int .i64))] wr) (fun q _ => nL - (intOf q).toNat)
            case atStart => exact ⟨0, Nat.zero_le _, rfl, SD⟩
            case round =>
              clear SD
              obtain ⟨k, hk, rfl, S⟩ := hrel
              by_cases hltk : k < nL
              · obtain ⟨m2, hm2, _, hgd2, hmem2⟩ := HAt.out k hltk
                have hCm := Lib.hid (HCmp.out m m2 hm hm2 HMem.out hmem2)
                have HCk := Lib.hid (fun W => HC.out m m2 hm hm2 W)
                have HC2 := Lib.hid (fun wz (h : Rd wz (some ⟨gL, 0, none⟩) nL (L.map (Value.int .i64))) => show wz.cell? ⟨gL, 0, none⟩ = some (.int .i64 (m : Int)) ∧ wz.cell? ⟨gL, k, none⟩ = some (.int .i64 (m2 : Int)) from by
                  have k1 := HCe.out wz h 0 hlt
                  have k2 := HCe.out wz h k hltk
                  rw [HGd.out] at k1
                  rw [hgd2] at k2
                  simp only [Nat.zero_add] at k1 k2
                  exact ⟨k1, k2⟩)
                clear hgd2 hmem2
                generalize compN m m2 = v2 at *
                have HPl2 := Lib.hid (fun W h => place_z L v2 (some ⟨gL, 0, none⟩) nL cL W h (by have := HLen.out; omega))
                have hk1 : (0 : Int) ≤ (k : Int) := by omega
                have hk2 : (k : Int) < (nL : Int) := by omega
                go_wp2_with fail
                have SE := S.drew
                clear S
                go_region_held3 (fun w' => w'.cell? ⟨gL, 0, none⟩ = some (.int .i64 (m : Int)) ∧ w'.cell? ⟨gL, k, none⟩ = some (.int .i64 (m2 : Int)))
                  (exact HC2.out _ (SE.rd 2 rfl))
                  (first
                    | (go_at_call 11; refine (HCk.out _).mono ?_; rintro ez wz ⟨rfl, hbz⟩; replace SE := SE.keep hbz)
                    | fail)
                go_wp2_with fail
                refine (HPl2.out _ (SE.rd 2 rfl)).mono ?_
                rintro e w7 ⟨z2, rfl, hz, _, hb7⟩
                have hzz2 := hz hCm.out
                have hzl2 : ¬ z2 < 0 := by omega
                have hzd2 : decide (z2 < 0) = false := by simp; omega
                have T7 := SE.keep hb7
                clear SE hz hb7
                go_wp2_with fail
                go_roundw
                case rel => first | exact ⟨k + 1, by omega, by go_num, T7⟩ | exact ⟨k + 1, by omega, by omega⟩ | exact ⟨k + 1, by omega, by omega, T7⟩
                case measure => first | (simp [intOf]; done) | (simp [intOf]; omega)
              · have hkn : k = nL := by omega
                have HKN := Lib.hid hkn
                clear hltk
                have hkb : ¬ (k : Int) < (nL : Int) := by omega
                clear hkn
                go_wp2_with fail
                go_roundw
                case rel => first | exact ⟨0 + 1, by omega, by go_num, S⟩ | exact ⟨0 + 1, by omega, by omega⟩ | exact ⟨0 + 1, by omega, by omega, S⟩
                case measure => first | (simp [intOf]; done) | (simp [intOf]; omega)
          · obtain ⟨j, rfl⟩ : ∃ j, i = j + 1 := ⟨i - 1, by omega⟩
            obtain ⟨m', hm', _, hgd', _⟩ := HAt.out j (by omega)
            have hmo := HMo.out j hlt
            rw [HGd.out, hgd'] at hmo
            have HCE := Lib.hid (fun wz (h : Rd wz (some ⟨gL, 0, none⟩) nL (L.map (Value.int .i64))) => show wz.cell? ⟨gL, j + 1, none⟩ = some (.int .i64 (m : Int)) ∧ wz.cell? ⟨gL, j, none⟩ = some (.int .i64 (m' : Int)) from by
              have k1 := HCe.out wz h (j + 1) hlt
              have k2 := HCe.out wz h j (by omega)
              rw [HGd.out] at k1
              rw [hgd'] at k2
              simp only [Nat.zero_add] at k1 k2
              exact ⟨k1, k2⟩)
            have hj1 : (0 : Int) ≤ (j : Int) := by omega
            have hj2 : (j : Int) < (nL : Int) := by omega
            have hj9 : (0 : Int) < (j : Int) + 1 := by omega
            have hj3 : (j : Int) + 1 - 1 = (j : Int) := by omega
            have hj4 : IntKind.i64.wrap (j : Int) = (j : Int) := IntWalk.i64_in _ (by omega)
            have hj5 : (((j + 1 : Nat) : Int)) = (j : Int) + 1 := by omega
            have hj6 : (0 : Int) ≤ (j : Int) + 1 := by omega
            have hj7 : (j : Int) + 1 < (nL : Int) := by omega
            have hj8 : ((j : Int) + 1).toNat = j + 1 := by omega
            have hmm : ¬ (m : Int) ≤ (m' : Int) := by omega
            have hmm2 : ¬ m ≤ m' := by omega
            have hmd : decide ((m : Int) ≤ (m' : Int)) = false := by simp; omega
            have hmd2 : decide (m ≤ m') = false := by simp; omega
            have hj10 : decide ((0 : Int) < (j : Int) + 1) = true := by first | (simp; done) | (simp; omega)
            clear hgd'
            go_wp2_with fail
            have SD := T3.drew
            refine wp_region_held_drew (S := (fun w' => w'.cell? ⟨gL, j + 1, none⟩ = some (.int .i64 (m : Int)) ∧ w'.cell? ⟨gL, j, none⟩ = some (.int .i64 (m' : Int)))) (by kernel_rfl) ?_ (fun hHeld => ?_)
            · (try dsimp only); exact HCE.out _ (SD.rd 2 rfl)
            refine man_take 0 123 (v := ?_) ⟨_, rfl, rfl⟩ (by kernel_rfl) (by kernel_rfl) (by kernel_rfl) (fun _ _ _ h => h) (by assumption) ?_ ?_
            rotate_left
            · intro oi ho; cases ho; refine ⟨by rfl, ?_⟩; intro w hSw; (try dsimp only at hSw); go_simp; try with_reducible rfl
            (try simp only [Act.put, List.setIfInBounds_toArray, List.set_cons_zero, List.set_cons_succ])
            refine man_take 1 124 (v := ?_) ⟨_, rfl, rfl⟩ (by kernel_rfl) (by kernel_rfl) (by kernel_rfl) (fun _ _ _ h => h) (by assumption) ?_ ?_
            rotate_left
            · intro oi ho; cases ho; refine ⟨by rfl, ?_⟩; intro w hSw; (try dsimp only at hSw); go_simp; try with_reducible rfl
            (try simp only [Act.put, List.setIfInBounds_toArray, List.set_cons_zero, List.set_cons_succ])
            refine man_take 2 125 (v := ?_) ⟨_, rfl, rfl⟩ (by kernel_rfl) (by kernel_rfl) (by kernel_rfl) (fun _ _ _ h => h) (by assumption) ?_ ?_
            rotate_left
            · intro oi ho; cases ho; refine ⟨by rfl, ?_⟩; intro w hSw; (try dsimp only at hSw); go_simp; try with_reducible rfl
            (try simp only [Act.put, List.setIfInBounds_toArray, List.set_cons_zero, List.set_cons_succ])
            refine man_take 3 126 (v := ?_) ⟨_, rfl, rfl⟩ (by kernel_rfl) (by kernel_rfl) (by kernel_rfl) (fun _ _ _ h => h) (by assumption) ?_ ?_
            rotate_left
            · intro oi ho; cases ho; refine ⟨by rfl, ?_⟩; intro w hSw; (try dsimp only at hSw); go_simp; try with_reducible rfl
            (try simp only [Act.put, List.setIfInBounds_toArray, List.set_cons_zero, List.set_cons_succ])
            refine man_take 4 127 (v := ?_) ⟨_, rfl, rfl⟩ (by kernel_rfl) (by kernel_rfl) (by kernel_rfl) (fun _ _ _ h => h) (by assumption) ?_ ?_
            rotate_left
            · intro oi ho; cases ho; refine ⟨by rfl, ?_⟩; intro w hSw; (try dsimp only at hSw); go_simp; try with_reducible rfl
            (try simp only [Act.put, List.setIfInBounds_toArray, List.set_cons_zero, List.set_cons_succ])
            refine man_take 5 128 (v := ?_) ⟨_, rfl, rfl⟩ (by kernel_rfl) (by kernel_rfl) (by kernel_rfl) (fun _ _ _ h => h) (by assumption) ?_ ?_
            rotate_left
            · intro oi ho; cases ho; refine ⟨by rfl, ?_⟩; intro w hSw; (try dsimp only at hSw); go_simp; try with_reducible rfl
            (try simp only [Act.put, List.setIfInBounds_toArray, List.set_cons_zero, List.set_cons_succ])
            refine man_take 6 129 (v := ?_) ⟨_, rfl, rfl⟩ (by kernel_rfl) (by kernel_rfl) (by kernel_rfl) (fun _ _ _ h => h) (by assumption) ?_ ?_
            rotate_left
            · intro oi ho; cases ho; refine ⟨by rfl, ?_⟩; intro w hSw; (try dsimp only at hSw); go_simp; try with_reducible rfl
            (try simp only [Act.put, List.setIfInBounds_toArray, List.set_cons_zero, List.set_cons_succ])
            refine man_run 7 rfl (by kernel_rfl) (fun K hK => ?_)
            go_simp
            refine (HPl.out _ (SD.rd 2 rfl)).mono ?_
            rintro e w6 ⟨z, rfl, hz, _, hb6⟩
            have hzz := hz hInv.out
            have hzl : ¬ z < 0 := by omega
            have hzd : decide (z < 0) = false := by simp; omega
            replace SD := SD.keep hb6
            clear hz hb6
            go_wp2_with fail
            refine hK.out _ _ ?_ (fun hHeld => ?_)
            · (try dsimp only); exact HCE.out _ (SD.rd 2 rfl)
            clear hK K
            (try simp only [Act.put, List.setIfInBounds_toArray, List.set_cons_zero, List.set_cons_succ])
            refine man_take 8 131 (v := ?_) ⟨_, rfl, rfl⟩ (by kernel_rfl) (by kernel_rfl) (by kernel_rfl) (fun _ _ _ h => h) (by assumption) ?_ ?_
            rotate_left
            · intro oi ho; cases ho; refine ⟨by rfl, ?_⟩; intro w hSw; (try dsimp only at hSw); go_simp; try with_reducible rfl
            (try simp only [Act.put, List.setIfInBounds_toArray, List.set_cons_zero, List.set_cons_succ])
            refine man_take 9 132 (v := ?_) ⟨_, rfl, rfl⟩ (by kernel_rfl) (by kernel_rfl) (by kernel_rfl) (fun _ _ _ h => h) (by assumption) ?_ ?_
            rotate_left
            · intro oi ho; cases ho; refine ⟨by rfl, ?_⟩; intro w hSw; (try dsimp only at hSw); go_simp; try with_reducible rfl
            (try simp only [Act.put, List.setIfInBounds_toArray, List.set_cons_zero, List.set_cons_succ])
            refine man_take 10 133 (v := ?_) ⟨_, rfl, rfl⟩ (by kernel_rfl) (by kernel_rfl) (by kernel_rfl) (fun _ _ _ h => h) (by assumption) ?_ ?_
            rotate_left
            · intro oi ho; cases ho; refine ⟨by rfl, ?_⟩; intro w hSw; (try dsimp only at hSw); go_simp; try with_reducible rfl
            (try simp only [Act.put, List.setIfInBounds_toArray, List.set_cons_zero, List.set_cons_succ])
            refine man_take 11 134 (v := ?_) ⟨_, rfl, rfl⟩ (by kernel_rfl) (by kernel_rfl) (by kernel_rfl) (fun _ _ _ h => h) (by assumption) ?_ ?_
            rotate_left
            · intro oi ho; cases ho; refine ⟨by rfl, ?_⟩; intro w hSw; (try dsimp only at hSw); go_simp; try with_reducible rfl
            (try simp only [Act.put, List.setIfInBounds_toArray, List.set_cons_zero, List.set_cons_succ])
            refine man_take 12 135 (v := ?_) ⟨_, rfl, rfl⟩ (by kernel_rfl) (by kernel_rfl) (by kernel_rfl) (fun _ _ _ h => h) (by assumption) ?_ ?_
            rotate_left
            · intro oi ho; cases ho; refine ⟨by rfl, ?_⟩; intro w hSw; (try dsimp only at hSw); go_simp; try with_reducible rfl
            (try simp only [Act.put, List.setIfInBounds_toArray, List.set_cons_zero, List.set_cons_succ])
            refine man_take 13 136 (v := ?_) ⟨_, rfl, rfl⟩ (by kernel_rfl) (by kernel_rfl) (by kernel_rfl) (fun _ _ _ h => h) (by assumption) ?_ ?_
            rotate_left
            · intro oi ho; cases ho; refine ⟨by rfl, ?_⟩; intro w hSw; (try dsimp only at hSw); go_simp; try with_reducible rfl
            (try simp only [Act.put, List.setIfInBounds_toArray, List.set_cons_zero, List.set_cons_succ])
            refine man_take 14 137 (v := ?_) ⟨_, rfl, rfl⟩ (by kernel_rfl) (by kernel_rfl) (by kernel_rfl) (fun _ _ _ h => h) (by assumption) ?_ ?_
            rotate_left
            · intro oi ho; cases ho; refine ⟨by rfl, ?_⟩; intro w hSw; (try dsimp only at hSw); go_simp; try with_reducible rfl
            (try simp only [Act.put, List.setIfInBounds_toArray, List.set_cons_zero, List.set_cons_succ])
            refine man_take 15 138 (v := ?_) ⟨_, rfl, rfl⟩ (by kernel_rfl) (by kernel_rfl) (by kernel_rfl) (fun _ _ _ h => h) (by assumption) ?_ ?_
            rotate_left
            · intro oi ho; cases ho; refine ⟨by rfl, ?_⟩; intro w hSw; (try dsimp only at hSw); go_simp; try with_reducible rfl
            (try simp only [Act.put, List.setIfInBounds_toArray, List.set_cons_zero, List.set_cons_succ])
            refine man_take 16 139 (v := ?_) ⟨_, rfl, rfl⟩ (by kernel_rfl) (by kernel_rfl) (by kernel_rfl) (fun _ _ _ h => h) (by assumption) ?_ ?_
            rotate_left
            · intro oi ho; cases ho; refine ⟨by rfl, ?_⟩; intro w hSw; (try dsimp only at hSw); go_simp; try with_reducible rfl
            (try simp only [Act.put, List.setIfInBounds_toArray, List.set_cons_zero, List.set_cons_succ])
            refine man_take 17 140 (v := ?_) ⟨_, rfl, rfl⟩ (by kernel_rfl) (by kernel_rfl) (by kernel_rfl) (fun _ _ _ h => h) (by assumption) ?_ ?_
            rotate_left
            · intro oi ho; cases ho; refine ⟨by rfl, ?_⟩; intro w hSw; (try dsimp only at hSw); go_simp; try with_reducible rfl
            (try simp only [Act.put, List.setIfInBounds_toArray, List.set_cons_zero, List.set_cons_succ])
            refine man_take 18 141 (v := ?_) ⟨_, rfl, rfl⟩ (by kernel_rfl) (by kernel_rfl) (by kernel_rfl) (fun _ _ _ h => h) (by assumption) ?_ ?_
            rotate_left
            · intro oi ho; cases ho; refine ⟨by rfl, ?_⟩; intro w hSw; (try dsimp only at hSw); go_simp; try with_reducible rfl
            (try simp only [Act.put, List.setIfInBounds_toArray, List.set_cons_zero, List.set_cons_succ])
            refine man_take 19 142 (v := ?_) ⟨_, rfl, rfl⟩ (by kernel_rfl) (by kernel_rfl) (by kernel_rfl) (fun _ _ _ h => h) (by assumption) ?_ ?_
            rotate_left
            · intro oi ho; cases ho; refine ⟨by rfl, ?_⟩; intro w hSw; (try dsimp only at hSw); go_simp; try with_reducible rfl
            (try simp only [Act.put, List.setIfInBounds_toArray, List.set_cons_zero, List.set_cons_succ])
            refine man_take 20 143 (v := ?_) ⟨_, rfl, rfl⟩ (by kernel_rfl) (by kernel_rfl) (by kernel_rfl) (fun _ _ _ h => h) (by assumption) ?_ ?_
            rotate_left
            · intro oi ho; cases ho; refine ⟨by rfl, ?_⟩; intro w hSw; (try dsimp only at hSw); go_simp; try with_reducible rfl
            (try simp only [Act.put, List.setIfInBounds_toArray, List.set_cons_zero, List.set_cons_succ])
            refine man_take 21 144 (v := ?_) ⟨_, rfl, rfl⟩ (by kernel_rfl) (by kernel_rfl) (by kernel_rfl) (fun _ _ _ h => h) (by assumption) ?_ ?_
            rotate_left
            · intro oi ho; cases ho; refine ⟨by rfl, ?_⟩; intro w hSw; (try dsimp only at hSw); go_simp; try with_reducible rfl
            (try simp only [Act.put, List.setIfInBounds_toArray, List.set_cons_zero, List.set_cons_succ])
            refine man_take 22 145 (v := ?_) ⟨_, rfl, rfl⟩ (by kernel_rfl) (by kernel_rfl) (by kernel_rfl) (fun _ _ _ h => h) (by assumption) ?_ ?_
            rotate_left
            · intro oi ho; cases ho; refine ⟨by rfl, ?_⟩; intro w hSw; (try dsimp only at hSw); go_simp; try with_reducible rfl
            (try simp only [Act.put, List.setIfInBounds_toArray, List.set_cons_zero, List.set_cons_succ])
            refine man_take 23 146 (v := ?_) ⟨_, rfl, rfl⟩ (by kernel_rfl) (by kernel_rfl) (by kernel_rfl) (fun _ _ _ h => h) (by assumption) ?_ ?_
            rotate_left
            · intro oi ho; cases ho; refine ⟨by rfl, ?_⟩; intro w hSw; (try dsimp only at hSw); go_simp; try with_reducible rfl
            (try simp only [Act.put, List.setIfInBounds_toArray, List.set_cons_zero, List.set_cons_succ])
            refine man_take 24 147 (v := ?_) ⟨_, rfl, rfl⟩ (by kernel_rfl) (by kernel_rfl) (by kernel_rfl) (fun _ _ _ h => h) (by assumption) ?_ ?_
            rotate_left
            · intro oi ho; cases ho; refine ⟨by rfl, ?_⟩; intro w hSw; (try dsimp only at hSw); go_simp; try with_reducible rfl
            (try simp only [Act.put, List.setIfInBounds_toArray, List.set_cons_zero, List.set_cons_succ])
            refine man_take 25 148 (v := ?_) ⟨_, rfl, rfl⟩ (by kernel_rfl) (by kernel_rfl) (by kernel_rfl) (fun _ _ _ h => h) (by assumption) ?_ ?_
            rotate_left
            · intro oi ho; cases ho; refine ⟨by rfl, ?_⟩; intro w hSw; (try dsimp only at hSw); go_simp; try with_reducible rfl
            (try simp only [Act.put, List.setIfInBounds_toArray, List.set_cons_zero, List.set_cons_succ])
            refine wpAnyH_done (by kernel_rfl) ?_ _
            go_wp2_with fail
            go_loopw [16] (fun q wr => ∃ k : Nat, k ≤ nL ∧ q = .int .i64 k ∧ St w [.rd A0 n0 (g.bits.map Value.bool), .blk w.heap.size 24 #[.int .i64 g.w, .int .i64 g.h, .slice A0 n0 c0], .rd (some ⟨gL, 0, none⟩) nL (L.map (Value.int .i64))] wr) (fun q _ => nL - (intOf q).toNat)
            case atStart => exact ⟨0, Nat.zero_le _, rfl, SD⟩
            case round =>
              clear SD
              obtain ⟨k, hk, rfl, S⟩ := hrel
              by_cases hltk : k < nL
              · obtain ⟨m2, hm2, _, hgd2, hmem2⟩ := HAt.out k hltk
                have hCm := Lib.hid (HCmp.out m m2 hm hm2 HMem.out hmem2)
                have HCk := Lib.hid (fun W => HC.out m m2 hm hm2 W)
                have HC2 := Lib.hid (fun wz (h : Rd wz (some ⟨gL, 0, none⟩) nL (L.map (Value.int .i64))) => show wz.cell? ⟨gL, (j + 1), none⟩ = some (.int .i64 (m : Int)) ∧ wz.cell? ⟨gL, k, none⟩ = some (.int .i64 (m2 : Int)) from by
                  have k1 := HCe.out wz h (j + 1) hlt
                  have k2 := HCe.out wz h k hltk
                  rw [HGd.out] at k1
                  rw [hgd2] at k2
                  simp only [Nat.zero_add] at k1 k2
                  exact ⟨k1, k2⟩)
                clear hgd2 hmem2
                generalize compN m m2 = v2 at *
                have HPl2 := Lib.hid (fun W h => place_z L v2 (some ⟨gL, 0, none⟩) nL cL W h (by have := HLen.out; omega))
                have hk1 : (0 : Int) ≤ (k : Int) := by omega
                have hk2 : (k : Int) < (nL : Int) := by omega
                go_wp2_with fail
                have SE := S.drew
                clear S
                go_region_held3 (fun w' => w'.cell? ⟨gL, (j + 1), none⟩ = some (.int .i64 (m : Int)) ∧ w'.cell? ⟨gL, k, none⟩ = some (.int .i64 (m2 : Int)))
                  (exact HC2.out _ (SE.rd 2 rfl))
                  (first
                    | (go_at_call 11; refine (HCk.out _).mono ?_; rintro ez wz ⟨rfl, hbz⟩; replace SE := SE.keep hbz)
                    | fail)
                go_wp2_with fail
                refine (HPl2.out _ (SE.rd 2 rfl)).mono ?_
                rintro e w7 ⟨z2, rfl, hz, _, hb7⟩
                have hzz2 := hz hCm.out
                have hzl2 : ¬ z2 < 0 := by omega
                have hzd2 : decide (z2 < 0) = false := by simp; omega
                have T7 := SE.keep hb7
                clear SE hz hb7
                go_wp2_with fail
                go_roundw
                case rel => first | exact ⟨k + 1, by omega, by go_num, T7⟩ | exact ⟨k + 1, by omega, by omega⟩ | exact ⟨k + 1, by omega, by omega, T7⟩
                case measure => first | (simp [intOf]; done) | (simp [intOf]; omega)
              · have hkn : k = nL := by omega
                have HKN := Lib.hid hkn
                clear hltk
                have hkb : ¬ (k : Int) < (nL : Int) := by omega
                clear hkn
                go_wp2_with fail
                go_roundw
                case rel => first | exact ⟨(j + 1) + 1, by omega, by go_num, S⟩ | exact ⟨(j + 1) + 1, by omega, by omega⟩ | exact ⟨(j + 1) + 1, by omega, by omega, S⟩
                case measure => first | (simp [intOf]; done) | (simp [intOf]; omega)
        · have hin : i = nL := by omega
          subst hin
          go_wp2_with fail
          refine (alive_any _).mono ?_
          rintro e w3 ⟨rfl, hb3⟩
          go_wp2_with fail
          go_ret
          exact ⟨rfl, (S.keep hb3).below⟩

theorem group7_walk (g : Gd) (A0 : Option Addr) (n0 c0 : Nat) (w : World) (hr : Rd w A0 n0 (g.bits.map Value.bool)) (hc : n0 ≤ c0) :
    Calls Tryd.prog 5 #[.agg #[.int .i64 g.w, .int .i64 g.h, .slice A0 n0 c0]] w fun e w' => e = .returned (.bool true) ∧ Below w.heap.size w w' := by
  have hl : g.bits.length = n0 := by simpa using hr.len
  cases hv : valid7B g with
  | false => exact group7_off_0 g A0 n0 c0 w hr hl hv
  | true => exact group7_main g A0 n0 c0 w hr hc hv
end Go.Proofs.YtliibficmdomjaaDoor
