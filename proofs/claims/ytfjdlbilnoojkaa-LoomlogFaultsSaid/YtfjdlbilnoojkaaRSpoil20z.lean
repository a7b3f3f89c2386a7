/- raddleref20.Spoil. -/
import Derived.Test.YtfjdlbilnoojkaaSpoilP20z
import Derived.Test.YtfjdlbilnoojkaaWovenz
import Derived.Test.YtfjdlbilnoojkaaRow20z
import Derived.Test.YtfjdlbilnoojkaaBlk2z
namespace Go.Proofs.Ytfjdlbilnoojkaa
open Go.RowKit

theorem st_grown {w u u' : World} {L : List Fact} {row : Option Nat} (h : St w L u) (hg : u.grownBy u' row) (hb : ∀ g, row = some g → w.heap.size ≤ g) (hne : ∀ f ∈ L, ∃ g t cs, f = .blk g t cs ∧ some g ≠ row) : St w L u' :=
  ⟨h.1.grown hg h.1.size hb, fun f hf => by
    obtain ⟨g, t, cs, rfl, h1⟩ := hne f hf
    exact Blk.grown (h.2 _ hf) hg h1⟩
theorem st_set {w u : World} {L : List Fact} (h : St w L u) {g : Nat} (hg : w.heap.size ≤ g) (i : Nat) (v : Value) (hne : ∀ f ∈ L, ∃ g' t cs, f = .blk g' t cs ∧ g' ≠ g) : St w L (u.setCell ⟨g, i, none⟩ v) :=
  ⟨h.1.setCell (p := ⟨g, i, none⟩) hg v, fun f hf => by
    obtain ⟨g', t, cs, rfl, h1⟩ := hne f hf
    exact Blk.far (p := ⟨g, i, none⟩) (h.2 _ hf) h1 v⟩
set_option linter.unusedVariables false in
set_option maxHeartbeats 16000000 in
set_option maxRecDepth 100000 in
theorem rspoil20_any (W H : Int) (bs : List Bool) (A : Option Addr) (nA cA : Nat) (q k0 : Int) (lift : List Bool) (Al : Option Addr) (cl : Nat) (w : World) (hr : Rd w A nA (bs.map Value.bool)) (hnc : nA ≤ cA) (hrl : Rd w Al lift.length (lift.map Value.bool)) (hq0 : 0 ≤ q) (hll : lift.length ≤ 1000) :
    Calls Try.prog 26 #[.agg #[.int .i64 W, .int .i64 H, .slice A nA cA], .agg #[.int .u8 q, .int .i64 k0], .slice Al lift.length cl] w (RetG (spoilG W H bs q k0 lift) w) := by
  have hl : bs.length = nA := by simpa using hr.len
  obtain ⟨i0, hi0, hz0, hz1, hz2⟩ := info_parts Try.infoB
  have S0 := (((St.start w).box #[.int .i64 W, .int .i64 H, .slice A nA cA] 25).box #[.int .u8 q, .int .i64 k0] 46).box #[.int .i64 0, .int .i64 0, .slice none 0 0] 25
  simp only [size_alloc1, List.nil_append, List.cons_append] at S0
  have HP := Lib.hid (fun u => rpcheck_any W H A nA cA u)
  obtain ⟨c0, c1, c2⟩ := (S0.blk 0 rfl).cell3
  obtain ⟨d0, d1⟩ := (S0.blk 1 rfl).cell2
  by_cases hk : chkP W H nA = 0
  · have hkb : (chkP W H nA != 0) = false := by simpa using hk
    have hck : chkP W H bs.length = 0 := by rw [hl]; exact hk
    by_cases hq3 : 3 < q
    · have hqd : decide (3 < q) = true := decide_eq_true hq3
      have HX := Lib.hid (spoilG_2 (k := k0) (lift := lift) hck hq3)
      generalize spoilG W H bs q k0 lift = R at *
      generalize chkP W H nA = K at *
      clear hr hl hk hck hrl
      go_enter Try.func26, Try.ntmps26
      go_wp2_with fail
      refine (HP.out _).mono ?_
      rintro e w1 ⟨rfl, hb1⟩
      have S1 := S0.keep hb1
      clear c0 c1 c2 d0 d1
      obtain ⟨c0, c1, c2⟩ := (S1.blk 0 rfl).cell3
      obtain ⟨d0, d1⟩ := (S1.blk 1 rfl).cell2
      obtain ⟨r0, r1, r2⟩ := (S1.blk 2 rfl).cell3
      obtain ⟨f0, f1, f2⟩ := (S1.blk 2 rfl).frozen3
      obtain ⟨q0, q1, q2⟩ := ((S1.blk 2 rfl).set3 (.int .i64 0) (.int .i64 0) (.slice none 0 0)).cell3
      go_wp2_with fail
      refine bodyPost_ret (v := .tuple #[.agg #[.int .i64 0, .int .i64 0, .slice none 0 0], .int .i64 8]) (by simp [results, Try.results26, go_sem, q0, q1, q2]) rfl ?_
      rw [HX.out]
      exact ⟨none, 0, 0, rfl, World.ownsRow_nil _ _ _ _, below_set3 S1.below (by omega) _ _ _⟩
    have hqd : decide (3 < q) = false := decide_eq_false hq3
    by_cases harg : k0 < 0 ∨ H ≤ k0 ∨ (q = 0 ∧ k0 ≠ 0)
    · have HX := Lib.hid (spoilG_3 (lift := lift) hck hq3 harg)
      generalize spoilG W H bs q k0 lift = R at *
      generalize chkP W H nA = K at *
      clear hr hl hk hck hrl
      by_cases ha1 : k0 < 0
      · have hA1 : decide (k0 < 0) = true := decide_eq_true ha1
        clear harg
        go_enter Try.func26, Try.ntmps26
        go_wp2_with fail
        refine (HP.out _).mono ?_
        rintro e w1 ⟨rfl, hb1⟩
        have S1 := S0.keep hb1
        clear c0 c1 c2 d0 d1
        obtain ⟨c0, c1, c2⟩ := (S1.blk 0 rfl).cell3
        obtain ⟨d0, d1⟩ := (S1.blk 1 rfl).cell2
        obtain ⟨r0, r1, r2⟩ := (S1.blk 2 rfl).cell3
        obtain ⟨f0, f1, f2⟩ := (S1.blk 2 rfl).frozen3
        obtain ⟨q0, q1, q2⟩ := ((S1.blk 2 rfl).set3 (.int .i64 0) (.int .i64 0) (.slice none 0 0)).cell3
        go_wp2_with fail
        refine bodyPost_ret (v := .tuple #[.agg #[.int .i64 0, .int .i64 0, .slice none 0 0], .int .i64 2]) (by simp [results, Try.results26, go_sem, q0, q1, q2]) rfl ?_
        rw [HX.out]
        exact ⟨none, 0, 0, rfl, World.ownsRow_nil _ _ _ _, below_set3 S1.below (by omega) _ _ _⟩
      have hA1 : decide (k0 < 0) = false := decide_eq_false ha1
      by_cases ha2 : H ≤ k0
      · have hA2 : decide (H ≤ k0) = true := decide_eq_true ha2
        clear harg
        go_enter Try.func26, Try.ntmps26
        go_wp2_with fail
        refine (HP.out _).mono ?_
        rintro e w1 ⟨rfl, hb1⟩
        have S1 := S0.keep hb1
        clear c0 c1 c2 d0 d1
        obtain ⟨c0, c1, c2⟩ := (S1.blk 0 rfl).cell3
        obtain ⟨d0, d1⟩ := (S1.blk 1 rfl).cell2
        obtain ⟨r0, r1, r2⟩ := (S1.blk 2 rfl).cell3
        obtain ⟨f0, f1, f2⟩ := (S1.blk 2 rfl).frozen3
        obtain ⟨q0, q1, q2⟩ := ((S1.blk 2 rfl).set3 (.int .i64 0) (.int .i64 0) (.slice none 0 0)).cell3
        go_wp2_with fail
        refine bodyPost_ret (v := .tuple #[.agg #[.int .i64 0, .int .i64 0, .slice none 0 0], .int .i64 2]) (by simp [results, Try.results26, go_sem, q0, q1, q2]) rfl ?_
        rw [HX.out]
        exact ⟨none, 0, 0, rfl, World.ownsRow_nil _ _ _ _, below_set3 S1.below (by omega) _ _ _⟩
      have hA2 : decide (H ≤ k0) = false := decide_eq_false ha2
      obtain ⟨rfl, hk0⟩ : q = 0 ∧ k0 ≠ 0 := by rcases harg with h | h | h; exact absurd h ha1; exact absurd h ha2; exact h
      have hA3 : decide (0 < k0) = true := decide_eq_true (by omega)
      clear harg
      go_enter Try.func26, Try.ntmps26
      go_wp2_with fail
      refine (HP.out _).mono ?_
      rintro e w1 ⟨rfl, hb1⟩
      have S1 := S0.keep hb1
      clear c0 c1 c2 d0 d1
      obtain ⟨c0, c1, c2⟩ := (S1.blk 0 rfl).cell3
      obtain ⟨d0, d1⟩ := (S1.blk 1 rfl).cell2
      obtain ⟨r0, r1, r2⟩ := (S1.blk 2 rfl).cell3
      obtain ⟨f0, f1, f2⟩ := (S1.blk 2 rfl).frozen3
      obtain ⟨q0, q1, q2⟩ := ((S1.blk 2 rfl).set3 (.int .i64 0) (.int .i64 0) (.slice none 0 0)).cell3
      go_wp2_with fail
      refine bodyPost_ret (v := .tuple #[.agg #[.int .i64 0, .int .i64 0, .slice none 0 0], .int .i64 2]) (by simp [results, Try.results26, go_sem, q0, q1, q2]) rfl ?_
      rw [HX.out]
      exact ⟨none, 0, 0, rfl, World.ownsRow_nil _ _ _ _, below_set3 S1.below (by omega) _ _ _⟩
    obtain ⟨k, rfl⟩ : ∃ k : Nat, k0 = (k : Int) := ⟨k0.toNat, by omega⟩
    have hA1 : decide ((k : Int) < 0) = false := decide_eq_false (by omega)
    have hA2 : decide (H ≤ (k : Int)) = false := decide_eq_false (by omega)
    have HARG := Lib.hid harg
    have hkH : (k : Int) < H := by omega
    have hk00 : q = 0 → k = 0 := fun h => by have : ¬ (q = 0 ∧ (k : Int) ≠ 0) := fun h2 => harg (.inr (.inr h2)); omega
    clear harg
    by_cases hcnt : q = 3 ∧ (lift.length : Int) ≠ W
    · obtain ⟨rfl, hlw⟩ := hcnt
      have HX := Lib.hid (spoilG_4 hck hq3 HARG.out ⟨rfl, hlw⟩)
      have hlb : ((lift.length : Int) != W) = true := by simpa using hlw
      generalize spoilG W H bs 3 k lift = R at *
      generalize chkP W H nA = K at *
      clear hr hl hk hck hrl hlw
      go_enter Try.func26, Try.ntmps26
      go_wp2_with fail
      refine (HP.out _).mono ?_
      rintro e w1 ⟨rfl, hb1⟩
      have S1 := S0.keep hb1
      clear c0 c1 c2 d0 d1
      obtain ⟨c0, c1, c2⟩ := (S1.blk 0 rfl).cell3
      obtain ⟨d0, d1⟩ := (S1.blk 1 rfl).cell2
      obtain ⟨r0, r1, r2⟩ := (S1.blk 2 rfl).cell3
      obtain ⟨f0, f1, f2⟩ := (S1.blk 2 rfl).frozen3
      obtain ⟨q0, q1, q2⟩ := ((S1.blk 2 rfl).set3 (.int .i64 0) (.int .i64 0) (.slice none 0 0)).cell3
      go_wp2_with fail
      refine bodyPost_ret (v := .tuple #[.agg #[.int .i64 0, .int .i64 0, .slice none 0 0], .int .i64 26]) (by simp [results, Try.results26, go_sem, q0, q1, q2]) rfl ?_
      rw [HX.out]
      exact ⟨none, 0, 0, rfl, World.ownsRow_nil _ _ _ _, below_set3 S1.below (by omega) _ _ _⟩
    have HCNT := Lib.hid hcnt
    have HCK := Lib.hid hck
    obtain ⟨a, h, rfl, rfl, ha1, ha, hh1, hh, hn⟩ := chkP_zero hk
    obtain ⟨P, hP⟩ : ∃ P, spoiltL (rowsB a h bs) q k lift = P := ⟨_, rfl⟩
    have HPP := Lib.hid hP
    have hlen := hl.trans hn
    have hkh : k < h := by omega
    have HROWS := Lib.hid (show RowsN a P by rw [← hP]; exact spoiltL_rows (rowsB_rows hlen) (by rw [rowsB_len]; exact hkh) (fun h3 => by have : ¬ (lift.length : Int) ≠ a := fun h4 => hcnt ⟨h3, h4⟩; omega))
    have HX5 := Lib.hid (spoilG_5 (q := q) (n := k) (lift := lift) HCK.out hq3 HARG.out HCNT.out hP)
    have HROW := Lib.hid (fun (y : Nat) (hy : y < h) u (hu : Below w.heap.size w u) => row20_any a h y bs A nA cA u ha1 (by omega) hh hy hlen (hr.below hu) hnc)
    have HLIFT := Lib.hid (fun (h3 : q = 3) => show lift.length = a by have : ¬ (lift.length : Int) ≠ a := fun h4 => HCNT.out ⟨h3, h4⟩; omega)
    have hA2n : decide (h ≤ k) = false := decide_eq_false (by omega)
    generalize spoilG a h bs q k lift = R at *
    generalize chkP a h nA = K at *
    clear hr hl hk hck hcnt hn hlen hP
    have hcases : ∃ b0 b3 : Bool, (q == 0) = b0 ∧ (q == 3) = b3 ∧ (b0 = true → decide (0 < k) = false) ∧ (b3 = true → ((lift.length : Int) != (a : Int)) = false) := ⟨_, _, rfl, rfl, fun h0 => decide_eq_false (by have := hk00 (by simpa using h0); omega), fun h3 => by have := HLIFT.out (by simpa using h3); simp; omega⟩
    obtain ⟨b0, b3, hb0, hb3, hbk, hbl⟩ := hcases
    clear hk00
    rcases b0 with _ | _ <;> rcases b3 with _ | _
    · clear hbk hbl
      go_enter Try.func26, Try.ntmps26
      go_wp2_with fail
      refine (HP.out _).mono ?_
      rintro e w1 ⟨rfl, hb1⟩
      have S1 := S0.keep hb1
      clear c0 c1 c2 d0 d1
      obtain ⟨c0, c1, c2⟩ := (S1.blk 0 rfl).cell3
      obtain ⟨d0, d1⟩ := (S1.blk 1 rfl).cell2
      obtain ⟨G8, hG8e⟩ : ∃ G8, G8 = w1.heap.size := ⟨_, rfl⟩
      have hblk0 := Blk.new w1 25 #[.int .i64 a, .int .i64 0, .slice none 0 0]
      have S8 := S1.alloc (.cells #[.int .i64 a, .int .i64 0, .slice none 0 0] 25)
      have hG8 : w.heap.size ≤ G8 := by rw [hG8e]; exact S1.size
      have hsz3 : w.heap.size + 1 + 1 < w1.heap.size := (S1.blk 2 rfl).lt
      have HTY := Lib.hid (show ∀ f ∈ ([Fact.blk w.heap.size 25 #[.int .i64 a, .int .i64 h, .slice A nA cA], Fact.blk (w.heap.size + 1) 46 #[.int .u8 q, .int .i64 k], Fact.blk (w.heap.size + 1 + 1) 25 #[.int .i64 0, .int .i64 0, .slice none 0 0]] : List Fact), ∃ g t cs, f = .blk g t cs ∧ 4 ≠ t ∧ g ≠ G8 from by
        intro f hf
        simp only [List.mem_cons, List.not_mem_nil, or_false] at hf
        rcases hf with rfl | rfl | rfl
        · exact ⟨_, _, _, rfl, by decide, by omega⟩
        · exact ⟨_, _, _, rfl, by decide, by omega⟩
        · exact ⟨_, _, _, rfl, by decide, by omega⟩)
      go_wp2_with fail
      clear c0 c1 c2 d0 d1
      rw [← hG8e] at hblk0 ⊢
      clear hG8e hsz3
      go_loopw [9] (fun i wr => ∃ (y cnt cB : Nat) (B : Option Addr), y ≤ h ∧ i = .int .i64 y ∧ cnt = (SPto (rowsB a h bs) q k lift y).length ∧ Blk wr G8 25 #[.int .i64 a, .int .i64 cnt, .slice B (cnt * a) cB] ∧ wr.ownsRow w.heap.size 4 1 (.slice B (cnt * a) cB) (cnt * a) ((bitsOf (SPto (rowsB a h bs) q k lift y)).map Value.bool) ∧ St w [Fact.blk w.heap.size 25 #[.int .i64 a, .int .i64 h, .slice A nA cA], Fact.blk (w.heap.size + 1) 46 #[.int .u8 q, .int .i64 k], Fact.blk (w.heap.size + 1 + 1) 25 #[.int .i64 0, .int .i64 0, .slice none 0 0]] wr) (fun i _ => h - (intOf i).toNat)
      case atStart => exact ⟨0, 0, 0, none, Nat.zero_le _, rfl, rfl, by rw [Nat.zero_mul]; exact hblk0, by rw [Nat.zero_mul]; exact World.ownsRow_nil _ _ _ _, S8⟩
      case round =>
        obtain ⟨y, cnt, cB, B, hy, rfl, hcn, hblk, hown, S3⟩ := hrel
        have HCN := Lib.hid hcn
        have hcnt : cnt ≤ 66 := by
          by_cases hyk : y ≤ k
          · rw [hcn, SPto_low hyk (by rw [rowsB_len]; exact hy), List.length_take]; omega
          · rw [hcn, SPto_high (by omega) (by rw [rowsB_len]; exact hy), spoiltL_len (by rw [List.length_take, rowsB_len]; omega), List.length_take, rowsB_len]; split <;> (try split) <;> omega
        clear hcn
        obtain ⟨c0, c1, c2⟩ := (S3.blk 0 rfl).cell3
        obtain ⟨d0, d1⟩ := (S3.blk 1 rfl).cell2
        by_cases hlt : y < h
        · go_wp2_with fail
          refine (HROW.out y hlt _ S3.below).mono ?_
          rintro e w4 ⟨Ar, cr, rfl, hownr, hb4⟩
          have S4 := S3.keep hb4
          have hblk4 := hblk.keep hb4
          have hown4 := own_below hown hb4
          clear c0 c1 c2 d0 d1
          obtain ⟨c0, c1, c2⟩ := (S4.blk 0 rfl).cell3
          obtain ⟨d0, d1⟩ := (S4.blk 1 rfl).cell2
          by_cases hyk : y = k
          · have hyk' := hyk.symm
            subst hyk'
            have hyb : ((k : Int) == (k : Int)) = true := by simp
            by_cases hq1 : q = 1
            · subst hq1
              have HSR := Lib.hid (show SProw (rowsB a h bs) 1 k lift k = List.replicate 0 (rowB a bs k) by unfold SProw; rw [if_pos rfl, if_pos rfl]; rfl)
              obtain ⟨bl, hArl, hbl1, hbl2, _⟩ := own_form hownr (by omega)
              subst hArl
              have hRl := rd_of_own hownr
              have hnb4 : ∀ g, (Value.slice B (cnt * a) cB).ownBlock = some g → g ≠ bl := fun g hg e => by have := (hown.lt g hg).2; omega
              have hblG : bl ≠ G8 := fun e => own_blk_ne hownr hblk4 (by decide) (by simp [Value.ownBlock, e])
              go_wp2_with fail
              clear c0 c1 c2 d0 d1
              go_loopw [12] (fun i wz => ∃ (j z cZ : Nat) (Z : Option Addr), j ≤ 0 ∧ i = .int .i64 j ∧ z = cnt + j ∧ Blk wz G8 25 #[.int .i64 a, .int .i64 z, .slice Z (z * a) cZ] ∧ wz.ownsRow w.heap.size 4 1 (.slice Z (z * a) cZ) (z * a) ((bitsOf (SPto (rowsB a h bs) 1 k lift k ++ List.replicate j (rowB a bs k))).map Value.bool) ∧ (∀ g, (Value.slice Z (z * a) cZ).ownBlock = some g → g ≠ bl) ∧ Rd wz (some ⟨bl, 0, none⟩) a ((rowB a bs k).map Value.bool) ∧ St w [Fact.blk w.heap.size 25 #[.int .i64 a, .int .i64 h, .slice A nA cA], Fact.blk (w.heap.size + 1) 46 #[.int .u8 1, .int .i64 k], Fact.blk (w.heap.size + 1 + 1) 25 #[.int .i64 0, .int .i64 0, .slice none 0 0]] wz) (fun i _ => 0 - (intOf i).toNat)
              case atStart => exact ⟨0, cnt, cB, B, Nat.zero_le _, rfl, rfl, hblk4, by rw [List.replicate_zero, List.append_nil]; exact hown4, hnb4, hRl, S4⟩
              case round =>
                clear hblk4 hown4 hnb4 hRl S4
                obtain ⟨j, z, cZ, Z, hj, rfl, hz, hblk, hown, hnb, hRl, S5⟩ := hrel
                have HZ := Lib.hid hz
                have hz66 : z ≤ 70 := by omega
                have hza : z * a ≤ 70 * 40 := Nat.mul_le_mul hz66 ha
                clear hz
                by_cases hltj : j < 0
                · exact absurd hltj (Nat.not_lt_zero j)
                · obtain rfl : j = 0 := by omega
                  go_wp2_with fail
                  go_roundw
                  case rel => exact ⟨k + 1, z, cZ, Z, by omega, by go_num, by unfold SPto; rw [List.length_append, HSR.out, List.length_replicate, HZ.out, HCN.out], hblk, by unfold SPto; rw [HSR.out]; exact hown, S5⟩
                  case measure => simp [intOf]; omega
            have hb1 : (q == 1) = false := by simpa using hq1
            by_cases hq2 : q = 2
            · subst hq2
              have HSR := Lib.hid (show SProw (rowsB a h bs) 2 k lift k = List.replicate 2 (rowB a bs k) by unfold SProw; rw [if_pos rfl, if_neg (by decide), if_pos rfl, rowsB_getD hlt]; rfl)
              obtain ⟨bl, hArl, hbl1, hbl2, _⟩ := own_form hownr (by omega)
              subst hArl
              have hRl := rd_of_own hownr
              have hnb4 : ∀ g, (Value.slice B (cnt * a) cB).ownBlock = some g → g ≠ bl := fun g hg e => by have := (hown.lt g hg).2; omega
              have hblG : bl ≠ G8 := fun e => own_blk_ne hownr hblk4 (by decide) (by simp [Value.ownBlock, e])
              go_wp2_with fail
              clear c0 c1 c2 d0 d1
              go_loopw [12] (fun i wz => ∃ (j z cZ : Nat) (Z : Option Addr), j ≤ 2 ∧ i = .int .i64 j ∧ z = cnt + j ∧ Blk wz G8 25 #[.int .i64 a, .int .i64 z, .slice Z (z * a) cZ] ∧ wz.ownsRow w.heap.size 4 1 (.slice Z (z * a) cZ) (z * a) ((bitsOf (SPto (rowsB a h bs) 2 k lift k ++ List.replicate j (rowB a bs k))).map Value.bool) ∧ (∀ g, (Value.slice Z (z * a) cZ).ownBlock = some g → g ≠ bl) ∧ Rd wz (some ⟨bl, 0, none⟩) a ((rowB a bs k).map Value.bool) ∧ St w [Fact.blk w.heap.size 25 #[.int .i64 a, .int .i64 h, .slice A nA cA], Fact.blk (w.heap.size + 1) 46 #[.int .u8 2, .int .i64 k], Fact.blk (w.heap.size + 1 + 1) 25 #[.int .i64 0, .int .i64 0, .slice none 0 0]] wz) (fun i _ => 2 - (intOf i).toNat)
              case atStart => exact ⟨0, cnt, cB, B, Nat.zero_le _, rfl, rfl, hblk4, by rw [List.replicate_zero, List.append_nil]; exact hown4, hnb4, hRl, S4⟩
              case round =>
                clear hblk4 hown4 hnb4 hRl S4
                obtain ⟨j, z, cZ, Z, hj, rfl, hz, hblk, hown, hnb, hRl, S5⟩ := hrel
                have HZ := Lib.hid hz
                have hz66 : z ≤ 70 := by omega
                have hza : z * a ≤ 70 * 40 := Nat.mul_le_mul hz66 ha
                clear hz
                by_cases hltj : j < 2
                · have hbl5 := hRl.lt bl 0 rfl (by omega)
                  obtain ⟨k0, k1, k2⟩ := hblk.cell3
                  obtain ⟨M, hM⟩ : ∃ M, z * a = M := ⟨_, rfl⟩
                  rw [hM] at hblk hown hnb k2 hza
                  have HMM := Lib.hid hM
                  clear hM
                  go_wp2_with (at_builtin; go_loud (refine wpList_append_lies _ rfl (.tmp 86) (.tmp 87) 23 rfl w.heap.size 4 i0 (.bool false) 1 1 Try.underlying23 hi0 hz0 hz1 hz2 rfl (by omega) (.slice Z M cZ) M _ rfl hown ⟨bl, 0, none⟩ a _ ((rowB a bs k).map Value.bool) rfl (by have h1 := hRl.len; omega) (fun jj uu hu => by rw [Addr.add_lit]; exact hRl.lit jj uu hu) (oneCell_bools _) (by omega) (by unfold maxLen; omega) (by omega) S5.size _ rfl ?_))
                  intro gN cap w6 hown6 hg6 hat6 hlt6
                  have hblk6 := hblk.grown hg6 (own_blk_ne hown hblk (by decide))
                  obtain ⟨e0, e1, e2⟩ := hblk6.cell3
                  obtain ⟨g0, g1, g2⟩ := hblk6.frozen3
                  have hRl6 := hRl.grown2 hg6 (fun b o hA hl => by injection hA with hA; injection hA with hA1 _; subst hA1; exact fun e => hnb _ e.symm rfl)
                  have S6 : St w [Fact.blk w.heap.size 25 #[.int .i64 a, .int .i64 h, .slice A nA cA], Fact.blk (w.heap.size + 1) 46 #[.int .u8 2, .int .i64 k], Fact.blk (w.heap.size + 1 + 1) 25 #[.int .i64 0, .int .i64 0, .slice none 0 0]] w6 := st_grown S5 hg6 (fun g e => (hown.lt g e).1) (fun f hf => by obtain ⟨g, t, cs, e, ht, _⟩ := HTY.out f hf; subst e; exact ⟨g, t, cs, rfl, own_blk_ne hown (S5.2 _ hf) ht⟩)
                  clear k0 k1 k2
                  have hblk7 : Blk ((w6.setCell ⟨G8, 2, none⟩ (.slice (some ⟨gN, 0, none⟩) (M + a) cap)).setCell ⟨G8, 1, none⟩ (.int .i64 ((z : Int) + 1))) G8 25 #[.int .i64 a, .int .i64 ((z : Int) + 1), .slice (some ⟨gN, 0, none⟩) (M + a) cap] := by simpa using (hblk6.set_ 2 (.slice (some ⟨gN, 0, none⟩) (M + a) cap)).set_ 1 (.int .i64 ((z : Int) + 1))
                  have hne6 := own_blk_ne hown6 hblk6 (by decide)
                  have hown7 := own_far (own_far hown6 (p := ⟨G8, 2, none⟩) hne6 (.slice (some ⟨gN, 0, none⟩) (M + a) cap)) (p := ⟨G8, 1, none⟩) hne6 (.int .i64 ((z : Int) + 1))
                  have hRl7 := (hRl6.far (p := ⟨G8, 2, none⟩) (fun b o hA _ => by injection hA with hA; injection hA with hA1 _; subst hA1; exact hblG) (.slice (some ⟨gN, 0, none⟩) (M + a) cap)).far (p := ⟨G8, 1, none⟩) (fun b o hA _ => by injection hA with hA; injection hA with hA1 _; subst hA1; exact hblG) (.int .i64 ((z : Int) + 1))
                  have hnef : ∀ f ∈ ([Fact.blk w.heap.size 25 #[.int .i64 a, .int .i64 h, .slice A nA cA], Fact.blk (w.heap.size + 1) 46 #[.int .u8 2, .int .i64 k], Fact.blk (w.heap.size + 1 + 1) 25 #[.int .i64 0, .int .i64 0, .slice none 0 0]] : List Fact), ∃ g t cs, f = .blk g t cs ∧ g ≠ G8 := fun f hf => by obtain ⟨g, t, cs, e, _, hne⟩ := HTY.out f hf; exact ⟨g, t, cs, e, hne⟩
                  have S7 := st_set (st_set S6 hG8 2 (.slice (some ⟨gN, 0, none⟩) (M + a) cap) hnef) hG8 1 (.int .i64 ((z : Int) + 1)) hnef
                  go_wp2_with fail
                  go_roundw
                  case rel =>
                    refine ⟨j + 1, z + 1, cap, some ⟨gN, 0, none⟩, by omega, by go_num, by have := HZ.out; omega, ?_, ?_, ?_, hRl7, S7⟩
                    · rw [Nat.succ_mul, HMM.out, show (((z + 1 : Nat) : Int)) = (z : Int) + 1 by omega]; exact hblk7
                    · rw [Nat.succ_mul, HMM.out, List.replicate_succ', ← List.append_assoc, bitsOf_snoc, List.map_append]
                      exact hown7
                    · intro g hg e
                      have h1 : gN = g := by simpa [Value.ownBlock] using hg
                      subst h1
                      rcases hat6 with h2 | h2
                      · exact hnb _ h2 e
                      · rw [← e, h2] at hbl5; exact absurd hbl5 (Nat.lt_irrefl _)
                  case measure => simp [intOf]; omega
                · obtain rfl : j = 2 := by omega
                  go_wp2_with fail
                  go_roundw
                  case rel => exact ⟨k + 1, z, cZ, Z, by omega, by go_num, by unfold SPto; rw [List.length_append, HSR.out, List.length_replicate, HZ.out, HCN.out], hblk, by unfold SPto; rw [HSR.out]; exact hown, S5⟩
                  case measure => simp [intOf]; omega
            have hb2 : (q == 2) = false := by simpa using hq2
            have hq3' : ¬ q = 3 := by simpa using hb3
            have HSR := Lib.hid (show SProw (rowsB a h bs) q k lift k = List.replicate 1 (rowB a bs k) by unfold SProw; rw [if_pos rfl, if_neg hq1, if_neg hq2, if_neg hq3', rowsB_getD hlt]; rfl)
            obtain ⟨bl, hArl, hbl1, hbl2, _⟩ := own_form hownr (by omega)
            subst hArl
            have hRl := rd_of_own hownr
            have hnb4 : ∀ g, (Value.slice B (cnt * a) cB).ownBlock = some g → g ≠ bl := fun g hg e => by have := (hown.lt g hg).2; omega
            have hblG : bl ≠ G8 := fun e => own_blk_ne hownr hblk4 (by decide) (by simp [Value.ownBlock, e])
            go_wp2_with fail
            clear c0 c1 c2 d0 d1
            go_loopw [12] (fun i wz => ∃ (j z cZ : Nat) (Z : Option Addr), j ≤ 1 ∧ i = .int .i64 j ∧ z = cnt + j ∧ Blk wz G8 25 #[.int .i64 a, .int .i64 z, .slice Z (z * a) cZ] ∧ wz.ownsRow w.heap.size 4 1 (.slice Z (z * a) cZ) (z * a) ((bitsOf (SPto (rowsB a h bs) q k lift k ++ List.replicate j (rowB a bs k))).map Value.bool) ∧ (∀ g, (Value.slice Z (z * a) cZ).ownBlock = some g → g ≠ bl) ∧ Rd wz (some ⟨bl, 0, none⟩) a ((rowB a bs k).map Value.bool) ∧ St w [Fact.blk w.heap.size 25 #[.int .i64 a, .int .i64 h, .slice A nA cA], Fact.blk (w.heap.size + 1) 46 #[.int .u8 q, .int .i64 k], Fact.blk (w.heap.size + 1 + 1) 25 #[.int .i64 0, .int .i64 0, .slice none 0 0]] wz) (fun i _ => 1 - (intOf i).toNat)
            case atStart => exact ⟨0, cnt, cB, B, Nat.zero_le _, rfl, rfl, hblk4, by rw [List.replicate_zero, List.append_nil]; exact hown4, hnb4, hRl, S4⟩
            case round =>
              clear hblk4 hown4 hnb4 hRl S4
              obtain ⟨j, z, cZ, Z, hj, rfl, hz, hblk, hown, hnb, hRl, S5⟩ := hrel
              have HZ := Lib.hid hz
              have hz66 : z ≤ 70 := by omega
              have hza : z * a ≤ 70 * 40 := Nat.mul_le_mul hz66 ha
              clear hz
              by_cases hltj : j < 1
              · have hbl5 := hRl.lt bl 0 rfl (by omega)
                obtain ⟨k0, k1, k2⟩ := hblk.cell3
                obtain ⟨M, hM⟩ : ∃ M, z * a = M := ⟨_, rfl⟩
                rw [hM] at hblk hown hnb k2 hza
                have HMM := Lib.hid hM
                clear hM
                go_wp2_with (at_builtin; go_loud (refine wpList_append_lies _ rfl (.tmp 86) (.tmp 87) 23 rfl w.heap.size 4 i0 (.bool false) 1 1 Try.underlying23 hi0 hz0 hz1 hz2 rfl (by omega) (.slice Z M cZ) M _ rfl hown ⟨bl, 0, none⟩ a _ ((rowB a bs k).map Value.bool) rfl (by have h1 := hRl.len; omega) (fun jj uu hu => by rw [Addr.add_lit]; exact hRl.lit jj uu hu) (oneCell_bools _) (by omega) (by unfold maxLen; omega) (by omega) S5.size _ rfl ?_))
                intro gN cap w6 hown6 hg6 hat6 hlt6
                have hblk6 := hblk.grown hg6 (own_blk_ne hown hblk (by decide))
                obtain ⟨e0, e1, e2⟩ := hblk6.cell3
                obtain ⟨g0, g1, g2⟩ := hblk6.frozen3
                have hRl6 := hRl.grown2 hg6 (fun b o hA hl => by injection hA with hA; injection hA with hA1 _; subst hA1; exact fun e => hnb _ e.symm rfl)
                have S6 : St w [Fact.blk w.heap.size 25 #[.int .i64 a, .int .i64 h, .slice A nA cA], Fact.blk (w.heap.size + 1) 46 #[.int .u8 q, .int .i64 k], Fact.blk (w.heap.size + 1 + 1) 25 #[.int .i64 0, .int .i64 0, .slice none 0 0]] w6 := st_grown S5 hg6 (fun g e => (hown.lt g e).1) (fun f hf => by obtain ⟨g, t, cs, e, ht, _⟩ := HTY.out f hf; subst e; exact ⟨g, t, cs, rfl, own_blk_ne hown (S5.2 _ hf) ht⟩)
                clear k0 k1 k2
                have hblk7 : Blk ((w6.setCell ⟨G8, 2, none⟩ (.slice (some ⟨gN, 0, none⟩) (M + a) cap)).setCell ⟨G8, 1, none⟩ (.int .i64 ((z : Int) + 1))) G8 25 #[.int .i64 a, .int .i64 ((z : Int) + 1), .slice (some ⟨gN, 0, none⟩) (M + a) cap] := by simpa using (hblk6.set_ 2 (.slice (some ⟨gN, 0, none⟩) (M + a) cap)).set_ 1 (.int .i64 ((z : Int) + 1))
                have hne6 := own_blk_ne hown6 hblk6 (by decide)
                have hown7 := own_far (own_far hown6 (p := ⟨G8, 2, none⟩) hne6 (.slice (some ⟨gN, 0, none⟩) (M + a) cap)) (p := ⟨G8, 1, none⟩) hne6 (.int .i64 ((z : Int) + 1))
                have hRl7 := (hRl6.far (p := ⟨G8, 2, none⟩) (fun b o hA _ => by injection hA with hA; injection hA with hA1 _; subst hA1; exact hblG) (.slice (some ⟨gN, 0, none⟩) (M + a) cap)).far (p := ⟨G8, 1, none⟩) (fun b o hA _ => by injection hA with hA; injection hA with hA1 _; subst hA1; exact hblG) (.int .i64 ((z : Int) + 1))
                have hnef : ∀ f ∈ ([Fact.blk w.heap.size 25 #[.int .i64 a, .int .i64 h, .slice A nA cA], Fact.blk (w.heap.size + 1) 46 #[.int .u8 q, .int .i64 k], Fact.blk (w.heap.size + 1 + 1) 25 #[.int .i64 0, .int .i64 0, .slice none 0 0]] : List Fact), ∃ g t cs, f = .blk g t cs ∧ g ≠ G8 := fun f hf => by obtain ⟨g, t, cs, e, _, hne⟩ := HTY.out f hf; exact ⟨g, t, cs, e, hne⟩
                have S7 := st_set (st_set S6 hG8 2 (.slice (some ⟨gN, 0, none⟩) (M + a) cap) hnef) hG8 1 (.int .i64 ((z : Int) + 1)) hnef
                go_wp2_with fail
                go_roundw
                case rel =>
                  refine ⟨j + 1, z + 1, cap, some ⟨gN, 0, none⟩, by omega, by go_num, by have := HZ.out; omega, ?_, ?_, ?_, hRl7, S7⟩
                  · rw [Nat.succ_mul, HMM.out, show (((z + 1 : Nat) : Int)) = (z : Int) + 1 by omega]; exact hblk7
                  · rw [Nat.succ_mul, HMM.out, List.replicate_succ', ← List.append_assoc, bitsOf_snoc, List.map_append]
                    exact hown7
                  · intro g hg e
                    have h1 : gN = g := by simpa [Value.ownBlock] using hg
                    subst h1
                    rcases hat6 with h2 | h2
                    · exact hnb _ h2 e
                    · rw [← e, h2] at hbl5; exact absurd hbl5 (Nat.lt_irrefl _)
                case measure => simp [intOf]; omega
              · obtain rfl : j = 1 := by omega
                go_wp2_with fail
                go_roundw
                case rel => exact ⟨k + 1, z, cZ, Z, by omega, by go_num, by unfold SPto; rw [List.length_append, HSR.out, List.length_replicate, HZ.out, HCN.out], hblk, by unfold SPto; rw [HSR.out]; exact hown, S5⟩
                case measure => simp [intOf]; omega
          · have hyb : ((y : Int) == (k : Int)) = false := by simp; omega
            have HSR := Lib.hid (show SProw (rowsB a h bs) q k lift y = List.replicate 1 (rowB a bs y) by unfold SProw; rw [if_neg hyk, rowsB_getD hlt]; rfl)
            obtain ⟨bl, hArl, hbl1, hbl2, _⟩ := own_form hownr (by omega)
            subst hArl
            have hRl := rd_of_own hownr
            have hnb4 : ∀ g, (Value.slice B (cnt * a) cB).ownBlock = some g → g ≠ bl := fun g hg e => by have := (hown.lt g hg).2; omega
            have hblG : bl ≠ G8 := fun e => own_blk_ne hownr hblk4 (by decide) (by simp [Value.ownBlock, e])
            go_wp2_with fail
            clear c0 c1 c2 d0 d1
            go_loopw [12] (fun i wz => ∃ (j z cZ : Nat) (Z : Option Addr), j ≤ 1 ∧ i = .int .i64 j ∧ z = cnt + j ∧ Blk wz G8 25 #[.int .i64 a, .int .i64 z, .slice Z (z * a) cZ] ∧ wz.ownsRow w.heap.size 4 1 (.slice Z (z * a) cZ) (z * a) ((bitsOf (SPto (rowsB a h bs) q k lift y ++ List.replicate j (rowB a bs y))).map Value.bool) ∧ (∀ g, (Value.slice Z (z * a) cZ).ownBlock = some g → g ≠ bl) ∧ Rd wz (some ⟨bl, 0, none⟩) a ((rowB a bs y).map Value.bool) ∧ St w [Fact.blk w.heap.size 25 #[.int .i64 a, .int .i64 h, .slice A nA cA], Fact.blk (w.heap.size + 1) 46 #[.int .u8 q, .int .i64 k], Fact.blk (w.heap.size + 1 + 1) 25 #[.int .i64 0, .int .i64 0, .slice none 0 0]] wz) (fun i _ => 1 - (intOf i).toNat)
            case atStart => exact ⟨0, cnt, cB, B, Nat.zero_le _, rfl, rfl, hblk4, by rw [List.replicate_zero, List.append_nil]; exact hown4, hnb4, hRl, S4⟩
            case round =>
              clear hblk4 hown4 hnb4 hRl S4
              obtain ⟨j, z, cZ, Z, hj, rfl, hz, hblk, hown, hnb, hRl, S5⟩ := hrel
              have HZ := Lib.hid hz
              have hz66 : z ≤ 70 := by omega
              have hza : z * a ≤ 70 * 40 := Nat.mul_le_mul hz66 ha
              clear hz
              by_cases hltj : j < 1
              · have hbl5 := hRl.lt bl 0 rfl (by omega)
                obtain ⟨k0, k1, k2⟩ := hblk.cell3
                obtain ⟨M, hM⟩ : ∃ M, z * a = M := ⟨_, rfl⟩
                rw [hM] at hblk hown hnb k2 hza
                have HMM := Lib.hid hM
                clear hM
                go_wp2_with (at_builtin; go_loud (refine wpList_append_lies _ rfl (.tmp 86) (.tmp 87) 23 rfl w.heap.size 4 i0 (.bool false) 1 1 Try.underlying23 hi0 hz0 hz1 hz2 rfl (by omega) (.slice Z M cZ) M _ rfl hown ⟨bl, 0, none⟩ a _ ((rowB a bs y).map Value.bool) rfl (by have h1 := hRl.len; omega) (fun jj uu hu => by rw [Addr.add_lit]; exact hRl.lit jj uu hu) (oneCell_bools _) (by omega) (by unfold maxLen; omega) (by omega) S5.size _ rfl ?_))
                intro gN cap w6 hown6 hg6 hat6 hlt6
                have hblk6 := hblk.grown hg6 (own_blk_ne hown hblk (by decide))
                obtain ⟨e0, e1, e2⟩ := hblk6.cell3
                obtain ⟨g0, g1, g2⟩ := hblk6.frozen3
                have hRl6 := hRl.grown2 hg6 (fun b o hA hl => by injection hA with hA; injection hA with hA1 _; subst hA1; exact fun e => hnb _ e.symm rfl)
                have S6 : St w [Fact.blk w.heap.size 25 #[.int .i64 a, .int .i64 h, .slice A nA cA], Fact.blk (w.heap.size + 1) 46 #[.int .u8 q, .int .i64 k], Fact.blk (w.heap.size + 1 + 1) 25 #[.int .i64 0, .int .i64 0, .slice none 0 0]] w6 := st_grown S5 hg6 (fun g e => (hown.lt g e).1) (fun f hf => by obtain ⟨g, t, cs, e, ht, _⟩ := HTY.out f hf; subst e; exact ⟨g, t, cs, rfl, own_blk_ne hown (S5.2 _ hf) ht⟩)
                clear k0 k1 k2
                have hblk7 : Blk ((w6.setCell ⟨G8, 2, none⟩ (.slice (some ⟨gN, 0, none⟩) (M + a) cap)).setCell ⟨G8, 1, none⟩ (.int .i64 ((z : Int) + 1))) G8 25 #[.int .i64 a, .int .i64 ((z : Int) + 1), .slice (some ⟨gN, 0, none⟩) (M + a) cap] := by simpa using (hblk6.set_ 2 (.slice (some ⟨gN, 0, none⟩) (M + a) cap)).set_ 1 (.int .i64 ((z : Int) + 1))
                have hne6 := own_blk_ne hown6 hblk6 (by decide)
                have hown7 := own_far (own_far hown6 (p := ⟨G8, 2, none⟩) hne6 (.slice (some ⟨gN, 0, none⟩) (M + a) cap)) (p := ⟨G8, 1, none⟩) hne6 (.int .i64 ((z : Int) + 1))
                have hRl7 := (hRl6.far (p := ⟨G8, 2, none⟩) (fun b o hA _ => by injection hA with hA; injection hA with hA1 _; subst hA1; exact hblG) (.slice (some ⟨gN, 0, none⟩) (M + a) cap)).far (p := ⟨G8, 1, none⟩) (fun b o hA _ => by injection hA with hA; injection hA with hA1 _; subst hA1; exact hblG) (.int .i64 ((z : Int) + 1))
                have hnef : ∀ f ∈ ([Fact.blk w.heap.size 25 #[.int .i64 a, .int .i64 h, .slice A nA cA], Fact.blk (w.heap.size + 1) 46 #[.int .u8 q, .int .i64 k], Fact.blk (w.heap.size + 1 + 1) 25 #[.int .i64 0, .int .i64 0, .slice none 0 0]] : List Fact), ∃ g t cs, f = .blk g t cs ∧ g ≠ G8 := fun f hf => by obtain ⟨g, t, cs, e, _, hne⟩ := HTY.out f hf; exact ⟨g, t, cs, e, hne⟩
                have S7 := st_set (st_set S6 hG8 2 (.slice (some ⟨gN, 0, none⟩) (M + a) cap) hnef) hG8 1 (.int .i64 ((z : Int) + 1)) hnef
                go_wp2_with fail
                go_roundw
                case rel =>
                  refine ⟨j + 1, z + 1, cap, some ⟨gN, 0, none⟩, by omega, by go_num, by have := HZ.out; omega, ?_, ?_, ?_, hRl7, S7⟩
                  · rw [Nat.succ_mul, HMM.out, show (((z + 1 : Nat) : Int)) = (z : Int) + 1 by omega]; exact hblk7
                  · rw [Nat.succ_mul, HMM.out, List.replicate_succ', ← List.append_assoc, bitsOf_snoc, List.map_append]
                    exact hown7
                  · intro g hg e
                    have h1 : gN = g := by simpa [Value.ownBlock] using hg
                    subst h1
                    rcases hat6 with h2 | h2
                    · exact hnb _ h2 e
                    · rw [← e, h2] at hbl5; exact absurd hbl5 (Nat.lt_irrefl _)
                case measure => simp [intOf]; omega
              · obtain rfl : j = 1 := by omega
                go_wp2_with fail
                go_roundw
                case rel => exact ⟨y + 1, z, cZ, Z, by omega, by go_num, by unfold SPto; rw [List.length_append, HSR.out, List.length_replicate, HZ.out, HCN.out], hblk, by unfold SPto; rw [HSR.out]; exact hown, S5⟩
                case measure => simp [intOf]; omega
        · obtain rfl : y = h := by omega
          have HPC := Lib.hid (fun u => rpcheck_any a cnt B (cnt * a) cB u)
          have hall := SPto_all (q := q) (lift := lift) hkh (rowsB_len a y bs)
          have hcP : cnt = P.length := by rw [HCN.out, hall, HPP.out]
          have HFL := Lib.hid (show cnt * a = P.flatten.length by rw [flat_len HROWS.out, hcP])
          have HBS := Lib.hid (show bitsOf (SPto (rowsB a y bs) q k lift y) = P.flatten by rw [hall, HPP.out]; rfl)
          rw [HBS.out] at hown
          have HCP := Lib.hid hcP
          rw [← hcP, ← HFL.out] at HX5
          clear hall hcP
          obtain ⟨FL, hFL⟩ : ∃ FL, cnt * a = FL := ⟨_, rfl⟩
          rw [hFL] at HPC HX5 hblk hown
          clear hFL d0 d1
          obtain ⟨k0, k1, k2⟩ := hblk.cell3
          by_cases hk3 : chkP a cnt FL = 0
          · have hkb3 : (chkP a cnt FL != 0) = false := by simpa using hk3
            have HXX := Lib.hid (HX5.out.2 hk3)
            generalize chkP a cnt FL = K3 at *
            go_wp2_with fail
            refine (HPC.out _).mono ?_
            rintro e w5 ⟨rfl, hb5⟩
            have S5 := S3.keep hb5
            have hblk5 := hblk.keep hb5
            have hown5 := own_below hown hb5
            clear c0 c1 c2 k0 k1 k2
            obtain ⟨c0, c1, c2⟩ := hblk5.cell3
            obtain ⟨r0, r1, r2⟩ := (S5.blk 2 rfl).cell3
            obtain ⟨f0, f1, f2⟩ := (S5.blk 2 rfl).frozen3
            obtain ⟨q0, q1, q2⟩ := ((S5.blk 2 rfl).set3 (.int .i64 a) (.int .i64 cnt) (.slice B FL cB)).cell3
            go_wp2_with fail
            refine bodyPost_ret (v := .tuple #[.agg #[.int .i64 a, .int .i64 cnt, .slice B FL cB], .int .i64 0]) (by simp [results, Try.results26, go_sem, q0, q1, q2]) rfl ?_
            rw [HXX.out]
            exact ⟨B, _, cB, by rw [HCP.out]; rfl, own_set3 hown5 (S5.blk 2 rfl) (by decide) _ _ _, below_set3 S5.below (by omega) _ _ _⟩
          · have hkb3 : (chkP a cnt FL != 0) = true := by simpa using hk3
            have HXX := Lib.hid (HX5.out.1 hk3)
            generalize chkP a cnt FL = K3 at *
            go_wp2_with fail
            refine (HPC.out _).mono ?_
            rintro e w5 ⟨rfl, hb5⟩
            have S5 := S3.keep hb5
            have hblk5 := hblk.keep hb5
            clear c0 c1 c2 k0 k1 k2
            obtain ⟨c0, c1, c2⟩ := hblk5.cell3
            go_wp2_with fail
            refine (HPC.out _).mono ?_
            rintro e w6 ⟨rfl, hb6⟩
            have S6 := S5.keep hb6
            clear c0 c1 c2
            obtain ⟨r0, r1, r2⟩ := (S6.blk 2 rfl).cell3
            obtain ⟨f0, f1, f2⟩ := (S6.blk 2 rfl).frozen3
            obtain ⟨q0, q1, q2⟩ := ((S6.blk 2 rfl).set3 (.int .i64 0) (.int .i64 0) (.slice none 0 0)).cell3
            go_wp2_with fail
            refine bodyPost_ret (v := .tuple #[.agg #[.int .i64 0, .int .i64 0, .slice none 0 0], .int .i64 K3]) (by simp [results, Try.results26, go_sem, q0, q1, q2]) rfl ?_
            rw [HXX.out]
            exact ⟨none, 0, 0, rfl, World.ownsRow_nil _ _ _ _, below_set3 S6.below (by omega) _ _ _⟩
    · have hbl2 := hbl rfl
      clear hbk hbl
      go_enter Try.func26, Try.ntmps26
      go_wp2_with fail
      refine (HP.out _).mono ?_
      rintro e w1 ⟨rfl, hb1⟩
      have S1 := S0.keep hb1
      clear c0 c1 c2 d0 d1
      obtain ⟨c0, c1, c2⟩ := (S1.blk 0 rfl).cell3
      obtain ⟨d0, d1⟩ := (S1.blk 1 rfl).cell2
      obtain ⟨G8, hG8e⟩ : ∃ G8, G8 = w1.heap.size := ⟨_, rfl⟩
      have hblk0 := Blk.new w1 25 #[.int .i64 a, .int .i64 0, .slice none 0 0]
      have S8 := S1.alloc (.cells #[.int .i64 a, .int .i64 0, .slice none 0 0] 25)
      have hG8 : w.heap.size ≤ G8 := by rw [hG8e]; exact S1.size
      have hsz3 : w.heap.size + 1 + 1 < w1.heap.size := (S1.blk 2 rfl).lt
      have HTY := Lib.hid (show ∀ f ∈ ([Fact.blk w.heap.size 25 #[.int .i64 a, .int .i64 h, .slice A nA cA], Fact.blk (w.heap.size + 1) 46 #[.int .u8 q, .int .i64 k], Fact.blk (w.heap.size + 1 + 1) 25 #[.int .i64 0, .int .i64 0, .slice none 0 0]] : List Fact), ∃ g t cs, f = .blk g t cs ∧ 4 ≠ t ∧ g ≠ G8 from by
        intro f hf
        simp only [List.mem_cons, List.not_mem_nil, or_false] at hf
        rcases hf with rfl | rfl | rfl
        · exact ⟨_, _, _, rfl, by decide, by omega⟩
        · exact ⟨_, _, _, rfl, by decide, by omega⟩
        · exact ⟨_, _, _, rfl, by decide, by omega⟩)
      go_wp2_with fail
      clear c0 c1 c2 d0 d1
      rw [← hG8e] at hblk0 ⊢
      clear hG8e hsz3
      go_loopw [9] (fun i wr => ∃ (y cnt cB : Nat) (B : Option Addr), y ≤ h ∧ i = .int .i64 y ∧ cnt = (SPto (rowsB a h bs) q k lift y).length ∧ Blk wr G8 25 #[.int .i64 a, .int .i64 cnt, .slice B (cnt * a) cB] ∧ wr.ownsRow w.heap.size 4 1 (.slice B (cnt * a) cB) (cnt * a) ((bitsOf (SPto (rowsB a h bs) q k lift y)).map Value.bool) ∧ St w [Fact.blk w.heap.size 25 #[.int .i64 a, .int .i64 h, .slice A nA cA], Fact.blk (w.heap.size + 1) 46 #[.int .u8 q, .int .i64 k], Fact.blk (w.heap.size + 1 + 1) 25 #[.int .i64 0, .int .i64 0, .slice none 0 0]] wr) (fun i _ => h - (intOf i).toNat)
      case atStart => exact ⟨0, 0, 0, none, Nat.zero_le _, rfl, rfl, by rw [Nat.zero_mul]; exact hblk0, by rw [Nat.zero_mul]; exact World.ownsRow_nil _ _ _ _, S8⟩
      case round =>
        obtain ⟨y, cnt, cB, B, hy, rfl, hcn, hblk, hown, S3⟩ := hrel
        have HCN := Lib.hid hcn
        have hcnt : cnt ≤ 66 := by
          by_cases hyk : y ≤ k
          · rw [hcn, SPto_low hyk (by rw [rowsB_len]; exact hy), List.length_take]; omega
          · rw [hcn, SPto_high (by omega) (by rw [rowsB_len]; exact hy), spoiltL_len (by rw [List.length_take, rowsB_len]; omega), List.length_take, rowsB_len]; split <;> (try split) <;> omega
        clear hcn
        obtain ⟨c0, c1, c2⟩ := (S3.blk 0 rfl).cell3
        obtain ⟨d0, d1⟩ := (S3.blk 1 rfl).cell2
        by_cases hlt : y < h
        · go_wp2_with fail
          refine (HROW.out y hlt _ S3.below).mono ?_
          rintro e w4 ⟨Ar, cr, rfl, hownr, hb4⟩
          have S4 := S3.keep hb4
          have hblk4 := hblk.keep hb4
          have hown4 := own_below hown hb4
          clear c0 c1 c2 d0 d1
          obtain ⟨c0, c1, c2⟩ := (S4.blk 0 rfl).cell3
          obtain ⟨d0, d1⟩ := (S4.blk 1 rfl).cell2
          by_cases hyk : y = k
          · have hyk' := hyk.symm
            subst hyk'
            have hyb : ((k : Int) == (k : Int)) = true := by simp
            have hq3' : q = 3 := by simpa using hb3
            · subst hq3'
              have hla : lift.length = a := HLIFT.out rfl
              have HSR := Lib.hid (show SProw (rowsB a h bs) 3 k lift k = List.replicate 1 lift by unfold SProw; rw [if_pos rfl, if_neg (by decide), if_neg (by decide), if_pos rfl]; rfl)
              obtain ⟨bl, ol, hAl, hbl0, _⟩ := hrl.at_ (by omega)
              subst hAl
              have hRl := hrl.below S4.below
              subst hla
              have hnb4 : ∀ g, (Value.slice B (cnt * lift.length) cB).ownBlock = some g → g ≠ bl := fun g hg e => by have := (hown.lt g hg).1; omega
              have hblG : bl ≠ G8 := by omega
              go_wp2_with fail
              clear c0 c1 c2 d0 d1
              go_loopw [12] (fun i wz => ∃ (j z cZ : Nat) (Z : Option Addr), j ≤ 1 ∧ i = .int .i64 j ∧ z = cnt + j ∧ Blk wz G8 25 #[.int .i64 lift.length, .int .i64 z, .slice Z (z * lift.length) cZ] ∧ wz.ownsRow w.heap.size 4 1 (.slice Z (z * lift.length) cZ) (z * lift.length) ((bitsOf (SPto (rowsB lift.length h bs) 3 k lift k ++ List.replicate j (lift))).map Value.bool) ∧ (∀ g, (Value.slice Z (z * lift.length) cZ).ownBlock = some g → g ≠ bl) ∧ Rd wz (some ⟨bl, ol, none⟩) lift.length ((lift).map Value.bool) ∧ St w [Fact.blk w.heap.size 25 #[.int .i64 lift.length, .int .i64 h, .slice A nA cA], Fact.blk (w.heap.size + 1) 46 #[.int .u8 3, .int .i64 k], Fact.blk (w.heap.size + 1 + 1) 25 #[.int .i64 0, .int .i64 0, .slice none 0 0]] wz) (fun i _ => 1 - (intOf i).toNat)
              case atStart => exact ⟨0, cnt, cB, B, Nat.zero_le _, rfl, rfl, hblk4, by rw [List.replicate_zero, List.append_nil]; exact hown4, hnb4, hRl, S4⟩
              case round =>
                clear hblk4 hown4 hnb4 hRl S4
                obtain ⟨j, z, cZ, Z, hj, rfl, hz, hblk, hown, hnb, hRl, S5⟩ := hrel
                have HZ := Lib.hid hz
                have hz66 : z ≤ 70 := by omega
                have hza : z * lift.length ≤ 70 * 40 := Nat.mul_le_mul hz66 ha
                clear hz
                by_cases hltj : j < 1
                · have hbl5 := hRl.lt bl ol rfl (by omega)
                  obtain ⟨k0, k1, k2⟩ := hblk.cell3
                  obtain ⟨M, hM⟩ : ∃ M, z * lift.length = M := ⟨_, rfl⟩
                  rw [hM] at hblk hown hnb k2 hza
                  have HMM := Lib.hid hM
                  clear hM
                  go_wp2_with (at_builtin; go_loud (refine wpList_append_lies _ rfl (.tmp 86) (.tmp 87) 23 rfl w.heap.size 4 i0 (.bool false) 1 1 Try.underlying23 hi0 hz0 hz1 hz2 rfl (by omega) (.slice Z M cZ) M _ rfl hown ⟨bl, ol, none⟩ lift.length _ ((lift).map Value.bool) rfl (by have h1 := hRl.len; omega) (fun jj uu hu => by rw [Addr.add_lit]; exact hRl.lit jj uu hu) (oneCell_bools _) (by omega) (by unfold maxLen; omega) (by omega) S5.size _ rfl ?_))
                  intro gN cap w6 hown6 hg6 hat6 hlt6
                  have hblk6 := hblk.grown hg6 (own_blk_ne hown hblk (by decide))
                  obtain ⟨e0, e1, e2⟩ := hblk6.cell3
                  obtain ⟨g0, g1, g2⟩ := hblk6.frozen3
                  have hRl6 := hRl.grown2 hg6 (fun b o hA hl => by injection hA with hA; injection hA with hA1 _; subst hA1; exact fun e => hnb _ e.symm rfl)
                  have S6 : St w [Fact.blk w.heap.size 25 #[.int .i64 lift.length, .int .i64 h, .slice A nA cA], Fact.blk (w.heap.size + 1) 46 #[.int .u8 3, .int .i64 k], Fact.blk (w.heap.size + 1 + 1) 25 #[.int .i64 0, .int .i64 0, .slice none 0 0]] w6 := st_grown S5 hg6 (fun g e => (hown.lt g e).1) (fun f hf => by obtain ⟨g, t, cs, e, ht, _⟩ := HTY.out f hf; subst e; exact ⟨g, t, cs, rfl, own_blk_ne hown (S5.2 _ hf) ht⟩)
                  clear k0 k1 k2
                  have hblk7 : Blk ((w6.setCell ⟨G8, 2, none⟩ (.slice (some ⟨gN, 0, none⟩) (M + lift.length) cap)).setCell ⟨G8, 1, none⟩ (.int .i64 ((z : Int) + 1))) G8 25 #[.int .i64 lift.length, .int .i64 ((z : Int) + 1), .slice (some ⟨gN, 0, none⟩) (M + lift.length) cap] := by simpa using (hblk6.set_ 2 (.slice (some ⟨gN, 0, none⟩) (M + lift.length) cap)).set_ 1 (.int .i64 ((z : Int) + 1))
                  have hne6 := own_blk_ne hown6 hblk6 (by decide)
                  have hown7 := own_far (own_far hown6 (p := ⟨G8, 2, none⟩) hne6 (.slice (some ⟨gN, 0, none⟩) (M + lift.length) cap)) (p := ⟨G8, 1, none⟩) hne6 (.int .i64 ((z : Int) + 1))
                  have hRl7 := (hRl6.far (p := ⟨G8, 2, none⟩) (fun b o hA _ => by injection hA with hA; injection hA with hA1 _; subst hA1; exact hblG) (.slice (some ⟨gN, 0, none⟩) (M + lift.length) cap)).far (p := ⟨G8, 1, none⟩) (fun b o hA _ => by injection hA with hA; injection hA with hA1 _; subst hA1; exact hblG) (.int .i64 ((z : Int) + 1))
                  have hnef : ∀ f ∈ ([Fact.blk w.heap.size 25 #[.int .i64 lift.length, .int .i64 h, .slice A nA cA], Fact.blk (w.heap.size + 1) 46 #[.int .u8 3, .int .i64 k], Fact.blk (w.heap.size + 1 + 1) 25 #[.int .i64 0, .int .i64 0, .slice none 0 0]] : List Fact), ∃ g t cs, f = .blk g t cs ∧ g ≠ G8 := fun f hf => by obtain ⟨g, t, cs, e, _, hne⟩ := HTY.out f hf; exact ⟨g, t, cs, e, hne⟩
                  have S7 := st_set (st_set S6 hG8 2 (.slice (some ⟨gN, 0, none⟩) (M + lift.length) cap) hnef) hG8 1 (.int .i64 ((z : Int) + 1)) hnef
                  go_wp2_with fail
                  go_roundw
                  case rel =>
                    refine ⟨j + 1, z + 1, cap, some ⟨gN, 0, none⟩, by omega, by go_num, by have := HZ.out; omega, ?_, ?_, ?_, hRl7, S7⟩
                    · rw [Nat.succ_mul, HMM.out, show (((z + 1 : Nat) : Int)) = (z : Int) + 1 by omega]; exact hblk7
                    · rw [Nat.succ_mul, HMM.out, List.replicate_succ', ← List.append_assoc, bitsOf_snoc, List.map_append]
                      exact hown7
                    · intro g hg e
                      have h1 : gN = g := by simpa [Value.ownBlock] using hg
                      subst h1
                      rcases hat6 with h2 | h2
                      · exact hnb _ h2 e
                      · rw [← e, h2] at hbl5; exact absurd hbl5 (Nat.lt_irrefl _)
                  case measure => simp [intOf]; omega
                · obtain rfl : j = 1 := by omega
                  go_wp2_with fail
                  go_roundw
                  case rel => exact ⟨k + 1, z, cZ, Z, by omega, by go_num, by unfold SPto; rw [List.length_append, HSR.out, List.length_replicate, HZ.out, HCN.out], hblk, by unfold SPto; rw [HSR.out]; exact hown, S5⟩
                  case measure => simp [intOf]; omega
          · have hyb : ((y : Int) == (k : Int)) = false := by simp; omega
            have HSR := Lib.hid (show SProw (rowsB a h bs) q k lift y = List.replicate 1 (rowB a bs y) by unfold SProw; rw [if_neg hyk, rowsB_getD hlt]; rfl)
            obtain ⟨bl, hArl, hbl1, hbl2, _⟩ := own_form hownr (by omega)
            subst hArl
            have hRl := rd_of_own hownr
            have hnb4 : ∀ g, (Value.slice B (cnt * a) cB).ownBlock = some g → g ≠ bl := fun g hg e => by have := (hown.lt g hg).2; omega
            have hblG : bl ≠ G8 := fun e => own_blk_ne hownr hblk4 (by decide) (by simp [Value.ownBlock, e])
            go_wp2_with fail
            clear c0 c1 c2 d0 d1
            go_loopw [12] (fun i wz => ∃ (j z cZ : Nat) (Z : Option Addr), j ≤ 1 ∧ i = .int .i64 j ∧ z = cnt + j ∧ Blk wz G8 25 #[.int .i64 a, .int .i64 z, .slice Z (z * a) cZ] ∧ wz.ownsRow w.heap.size 4 1 (.slice Z (z * a) cZ) (z * a) ((bitsOf (SPto (rowsB a h bs) q k lift y ++ List.replicate j (rowB a bs y))).map Value.bool) ∧ (∀ g, (Value.slice Z (z * a) cZ).ownBlock = some g → g ≠ bl) ∧ Rd wz (some ⟨bl, 0, none⟩) a ((rowB a bs y).map Value.bool) ∧ St w [Fact.blk w.heap.size 25 #[.int .i64 a, .int .i64 h, .slice A nA cA], Fact.blk (w.heap.size + 1) 46 #[.int .u8 q, .int .i64 k], Fact.blk (w.heap.size + 1 + 1) 25 #[.int .i64 0, .int .i64 0, .slice none 0 0]] wz) (fun i _ => 1 - (intOf i).toNat)
            case atStart => exact ⟨0, cnt, cB, B, Nat.zero_le _, rfl, rfl, hblk4, by rw [List.replicate_zero, List.append_nil]; exact hown4, hnb4, hRl, S4⟩
            case round =>
              clear hblk4 hown4 hnb4 hRl S4
              obtain ⟨j, z, cZ, Z, hj, rfl, hz, hblk, hown, hnb, hRl, S5⟩ := hrel
              have HZ := Lib.hid hz
              have hz66 : z ≤ 70 := by omega
              have hza : z * a ≤ 70 * 40 := Nat.mul_le_mul hz66 ha
              clear hz
              by_cases hltj : j < 1
              · have hbl5 := hRl.lt bl 0 rfl (by omega)
                obtain ⟨k0, k1, k2⟩ := hblk.cell3
                obtain ⟨M, hM⟩ : ∃ M, z * a = M := ⟨_, rfl⟩
                rw [hM] at hblk hown hnb k2 hza
                have HMM := Lib.hid hM
                clear hM
                go_wp2_with (at_builtin; go_loud (refine wpList_append_lies _ rfl (.tmp 86) (.tmp 87) 23 rfl w.heap.size 4 i0 (.bool false) 1 1 Try.underlying23 hi0 hz0 hz1 hz2 rfl (by omega) (.slice Z M cZ) M _ rfl hown ⟨bl, 0, none⟩ a _ ((rowB a bs y).map Value.bool) rfl (by have h1 := hRl.len; omega) (fun jj uu hu => by rw [Addr.add_lit]; exact hRl.lit jj uu hu) (oneCell_bools _) (by omega) (by unfold maxLen; omega) (by omega) S5.size _ rfl ?_))
                intro gN cap w6 hown6 hg6 hat6 hlt6
                have hblk6 := hblk.grown hg6 (own_blk_ne hown hblk (by decide))
                obtain ⟨e0, e1, e2⟩ := hblk6.cell3
                obtain ⟨g0, g1, g2⟩ := hblk6.frozen3
                have hRl6 := hRl.grown2 hg6 (fun b o hA hl => by injection hA with hA; injection hA with hA1 _; subst hA1; exact fun e => hnb _ e.symm rfl)
                have S6 : St w [Fact.blk w.heap.size 25 #[.int .i64 a, .int .i64 h, .slice A nA cA], Fact.blk (w.heap.size + 1) 46 #[.int .u8 q, .int .i64 k], Fact.blk (w.heap.size + 1 + 1) 25 #[.int .i64 0, .int .i64 0, .slice none 0 0]] w6 := st_grown S5 hg6 (fun g e => (hown.lt g e).1) (fun f hf => by obtain ⟨g, t, cs, e, ht, _⟩ := HTY.out f hf; subst e; exact ⟨g, t, cs, rfl, own_blk_ne hown (S5.2 _ hf) ht⟩)
                clear k0 k1 k2
                have hblk7 : Blk ((w6.setCell ⟨G8, 2, none⟩ (.slice (some ⟨gN, 0, none⟩) (M + a) cap)).setCell ⟨G8, 1, none⟩ (.int .i64 ((z : Int) + 1))) G8 25 #[.int .i64 a, .int .i64 ((z : Int) + 1), .slice (some ⟨gN, 0, none⟩) (M + a) cap] := by simpa using (hblk6.set_ 2 (.slice (some ⟨gN, 0, none⟩) (M + a) cap)).set_ 1 (.int .i64 ((z : Int) + 1))
                have hne6 := own_blk_ne hown6 hblk6 (by decide)
                have hown7 := own_far (own_far hown6 (p := ⟨G8, 2, none⟩) hne6 (.slice (some ⟨gN, 0, none⟩) (M + a) cap)) (p := ⟨G8, 1, none⟩) hne6 (.int .i64 ((z : Int) + 1))
                have hRl7 := (hRl6.far (p := ⟨G8, 2, none⟩) (fun b o hA _ => by injection hA with hA; injection hA with hA1 _; subst hA1; exact hblG) (.slice (some ⟨gN, 0, none⟩) (M + a) cap)).far (p := ⟨G8, 1, none⟩) (fun b o hA _ => by injection hA with hA; injection hA with hA1 _; subst hA1; exact hblG) (.int .i64 ((z : Int) + 1))
                have hnef : ∀ f ∈ ([Fact.blk w.heap.size 25 #[.int .i64 a, .int .i64 h, .slice A nA cA], Fact.blk (w.heap.size + 1) 46 #[.int .u8 q, .int .i64 k], Fact.blk (w.heap.size + 1 + 1) 25 #[.int .i64 0, .int .i64 0, .slice none 0 0]] : List Fact), ∃ g t cs, f = .blk g t cs ∧ g ≠ G8 := fun f hf => by obtain ⟨g, t, cs, e, _, hne⟩ := HTY.out f hf; exact ⟨g, t, cs, e, hne⟩
                have S7 := st_set (st_set S6 hG8 2 (.slice (some ⟨gN, 0, none⟩) (M + a) cap) hnef) hG8 1 (.int .i64 ((z : Int) + 1)) hnef
                go_wp2_with fail
                go_roundw
                case rel =>
                  refine ⟨j + 1, z + 1, cap, some ⟨gN, 0, none⟩, by omega, by go_num, by have := HZ.out; omega, ?_, ?_, ?_, hRl7, S7⟩
                  · rw [Nat.succ_mul, HMM.out, show (((z + 1 : Nat) : Int)) = (z : Int) + 1 by omega]; exact hblk7
                  · rw [Nat.succ_mul, HMM.out, List.replicate_succ', ← List.append_assoc, bitsOf_snoc, List.map_append]
                    exact hown7
                  · intro g hg e
                    have h1 : gN = g := by simpa [Value.ownBlock] using hg
                    subst h1
                    rcases hat6 with h2 | h2
                    · exact hnb _ h2 e
                    · rw [← e, h2] at hbl5; exact absurd hbl5 (Nat.lt_irrefl _)
                case measure => simp [intOf]; omega
              · obtain rfl : j = 1 := by omega
                go_wp2_with fail
                go_roundw
                case rel => exact ⟨y + 1, z, cZ, Z, by omega, by go_num, by unfold SPto; rw [List.length_append, HSR.out, List.length_replicate, HZ.out, HCN.out], hblk, by unfold SPto; rw [HSR.out]; exact hown, S5⟩
                case measure => simp [intOf]; omega
        · obtain rfl : y = h := by omega
          have HPC := Lib.hid (fun u => rpcheck_any a cnt B (cnt * a) cB u)
          have hall := SPto_all (q := q) (lift := lift) hkh (rowsB_len a y bs)
          have hcP : cnt = P.length := by rw [HCN.out, hall, HPP.out]
          have HFL := Lib.hid (show cnt * a = P.flatten.length by rw [flat_len HROWS.out, hcP])
          have HBS := Lib.hid (show bitsOf (SPto (rowsB a y bs) q k lift y) = P.flatten by rw [hall, HPP.out]; rfl)
          rw [HBS.out] at hown
          have HCP := Lib.hid hcP
          rw [← hcP, ← HFL.out] at HX5
          clear hall hcP
          obtain ⟨FL, hFL⟩ : ∃ FL, cnt * a = FL := ⟨_, rfl⟩
          rw [hFL] at HPC HX5 hblk hown
          clear hFL d0 d1
          obtain ⟨k0, k1, k2⟩ := hblk.cell3
          by_cases hk3 : chkP a cnt FL = 0
          · have hkb3 : (chkP a cnt FL != 0) = false := by simpa using hk3
            have HXX := Lib.hid (HX5.out.2 hk3)
            generalize chkP a cnt FL = K3 at *
            go_wp2_with fail
            refine (HPC.out _).mono ?_
            rintro e w5 ⟨rfl, hb5⟩
            have S5 := S3.keep hb5
            have hblk5 := hblk.keep hb5
            have hown5 := own_below hown hb5
            clear c0 c1 c2 k0 k1 k2
            obtain ⟨c0, c1, c2⟩ := hblk5.cell3
            obtain ⟨r0, r1, r2⟩ := (S5.blk 2 rfl).cell3
            obtain ⟨f0, f1, f2⟩ := (S5.blk 2 rfl).frozen3
            obtain ⟨q0, q1, q2⟩ := ((S5.blk 2 rfl).set3 (.int .i64 a) (.int .i64 cnt) (.slice B FL cB)).cell3
            go_wp2_with fail
            refine bodyPost_ret (v := .tuple #[.agg #[.int .i64 a, .int .i64 cnt, .slice B FL cB], .int .i64 0]) (by simp [results, Try.results26, go_sem, q0, q1, q2]) rfl ?_
            rw [HXX.out]
            exact ⟨B, _, cB, by rw [HCP.out]; rfl, own_set3 hown5 (S5.blk 2 rfl) (by decide) _ _ _, below_set3 S5.below (by omega) _ _ _⟩
          · have hkb3 : (chkP a cnt FL != 0) = true := by simpa using hk3
            have HXX := Lib.hid (HX5.out.1 hk3)
            generalize chkP a cnt FL = K3 at *
            go_wp2_with fail
            refine (HPC.out _).mono ?_
            rintro e w5 ⟨rfl, hb5⟩
            have S5 := S3.keep hb5
            have hblk5 := hblk.keep hb5
            clear c0 c1 c2 k0 k1 k2
            obtain ⟨c0, c1, c2⟩ := hblk5.cell3
            go_wp2_with fail
            refine (HPC.out _).mono ?_
            rintro e w6 ⟨rfl, hb6⟩
            have S6 := S5.keep hb6
            clear c0 c1 c2
            obtain ⟨r0, r1, r2⟩ := (S6.blk 2 rfl).cell3
            obtain ⟨f0, f1, f2⟩ := (S6.blk 2 rfl).frozen3
            obtain ⟨q0, q1, q2⟩ := ((S6.blk 2 rfl).set3 (.int .i64 0) (.int .i64 0) (.slice none 0 0)).cell3
            go_wp2_with fail
            refine bodyPost_ret (v := .tuple #[.agg #[.int .i64 0, .int .i64 0, .slice none 0 0], .int .i64 K3]) (by simp [results, Try.results26, go_sem, q0, q1, q2]) rfl ?_
            rw [HXX.out]
            exact ⟨none, 0, 0, rfl, World.ownsRow_nil _ _ _ _, below_set3 S6.below (by omega) _ _ _⟩
    · have hbk2 := hbk rfl
      clear hbk hbl
      go_enter Try.func26, Try.ntmps26
      go_wp2_with fail
      refine (HP.out _).mono ?_
      rintro e w1 ⟨rfl, hb1⟩
      have S1 := S0.keep hb1
      clear c0 c1 c2 d0 d1
      obtain ⟨c0, c1, c2⟩ := (S1.blk 0 rfl).cell3
      obtain ⟨d0, d1⟩ := (S1.blk 1 rfl).cell2
      obtain ⟨G8, hG8e⟩ : ∃ G8, G8 = w1.heap.size := ⟨_, rfl⟩
      have hblk0 := Blk.new w1 25 #[.int .i64 a, .int .i64 0, .slice none 0 0]
      have S8 := S1.alloc (.cells #[.int .i64 a, .int .i64 0, .slice none 0 0] 25)
      have hG8 : w.heap.size ≤ G8 := by rw [hG8e]; exact S1.size
      have hsz3 : w.heap.size + 1 + 1 < w1.heap.size := (S1.blk 2 rfl).lt
      have HTY := Lib.hid (show ∀ f ∈ ([Fact.blk w.heap.size 25 #[.int .i64 a, .int .i64 h, .slice A nA cA], Fact.blk (w.heap.size + 1) 46 #[.int .u8 q, .int .i64 k], Fact.blk (w.heap.size + 1 + 1) 25 #[.int .i64 0, .int .i64 0, .slice none 0 0]] : List Fact), ∃ g t cs, f = .blk g t cs ∧ 4 ≠ t ∧ g ≠ G8 from by
        intro f hf
        simp only [List.mem_cons, List.not_mem_nil, or_false] at hf
        rcases hf with rfl | rfl | rfl
        · exact ⟨_, _, _, rfl, by decide, by omega⟩
        · exact ⟨_, _, _, rfl, by decide, by omega⟩
        · exact ⟨_, _, _, rfl, by decide, by omega⟩)
      go_wp2_with fail
      clear c0 c1 c2 d0 d1
      rw [← hG8e] at hblk0 ⊢
      clear hG8e hsz3
      go_loopw [9] (fun i wr => ∃ (y cnt cB : Nat) (B : Option Addr), y ≤ h ∧ i = .int .i64 y ∧ cnt = (SPto (rowsB a h bs) q k lift y).length ∧ Blk wr G8 25 #[.int .i64 a, .int .i64 cnt, .slice B (cnt * a) cB] ∧ wr.ownsRow w.heap.size 4 1 (.slice B (cnt * a) cB) (cnt * a) ((bitsOf (SPto (rowsB a h bs) q k lift y)).map Value.bool) ∧ St w [Fact.blk w.heap.size 25 #[.int .i64 a, .int .i64 h, .slice A nA cA], Fact.blk (w.heap.size + 1) 46 #[.int .u8 q, .int .i64 k], Fact.blk (w.heap.size + 1 + 1) 25 #[.int .i64 0, .int .i64 0, .slice none 0 0]] wr) (fun i _ => h - (intOf i).toNat)
      case atStart => exact ⟨0, 0, 0, none, Nat.zero_le _, rfl, rfl, by rw [Nat.zero_mul]; exact hblk0, by rw [Nat.zero_mul]; exact World.ownsRow_nil _ _ _ _, S8⟩
      case round =>
        obtain ⟨y, cnt, cB, B, hy, rfl, hcn, hblk, hown, S3⟩ := hrel
        have HCN := Lib.hid hcn
        have hcnt : cnt ≤ 66 := by
          by_cases hyk : y ≤ k
          · rw [hcn, SPto_low hyk (by rw [rowsB_len]; exact hy), List.length_take]; omega
          · rw [hcn, SPto_high (by omega) (by rw [rowsB_len]; exact hy), spoiltL_len (by rw [List.length_take, rowsB_len]; omega), List.length_take, rowsB_len]; split <;> (try split) <;> omega
        clear hcn
        obtain ⟨c0, c1, c2⟩ := (S3.blk 0 rfl).cell3
        obtain ⟨d0, d1⟩ := (S3.blk 1 rfl).cell2
        by_cases hlt : y < h
        · go_wp2_with fail
          refine (HROW.out y hlt _ S3.below).mono ?_
          rintro e w4 ⟨Ar, cr, rfl, hownr, hb4⟩
          have S4 := S3.keep hb4
          have hblk4 := hblk.keep hb4
          have hown4 := own_below hown hb4
          clear c0 c1 c2 d0 d1
          obtain ⟨c0, c1, c2⟩ := (S4.blk 0 rfl).cell3
          obtain ⟨d0, d1⟩ := (S4.blk 1 rfl).cell2
          by_cases hyk : y = k
          · have hyk' := hyk.symm
            subst hyk'
            have hyb : ((k : Int) == (k : Int)) = true := by simp
            have hq1 : ¬ q = 1 := by rintro rfl; exact absurd hb0 (by decide)
            have hq2 : ¬ q = 2 := by rintro rfl; exact absurd hb0 (by decide)
            have hq3' : ¬ q = 3 := by rintro rfl; exact absurd hb0 (by decide)
            have hb1 : (q == 1) = false := by simpa using hq1
            have hb2 : (q == 2) = false := by simpa using hq2
            have HSR := Lib.hid (show SProw (rowsB a h bs) q k lift k = List.replicate 1 (rowB a bs k) by unfold SProw; rw [if_pos rfl, if_neg hq1, if_neg hq2, if_neg hq3', rowsB_getD hlt]; rfl)
            obtain ⟨bl, hArl, hbl1, hbl2, _⟩ := own_form hownr (by omega)
            subst hArl
            have hRl := rd_of_own hownr
            have hnb4 : ∀ g, (Value.slice B (cnt * a) cB).ownBlock = some g → g ≠ bl := fun g hg e => by have := (hown.lt g hg).2; omega
            have hblG : bl ≠ G8 := fun e => own_blk_ne hownr hblk4 (by decide) (by simp [Value.ownBlock, e])
            go_wp2_with fail
            clear c0 c1 c2 d0 d1
            go_loopw [12] (fun i wz => ∃ (j z cZ : Nat) (Z : Option Addr), j ≤ 1 ∧ i = .int .i64 j ∧ z = cnt + j ∧ Blk wz G8 25 #[.int .i64 a, .int .i64 z, .slice Z (z * a) cZ] ∧ wz.ownsRow w.heap.size 4 1 (.slice Z (z * a) cZ) (z * a) ((bitsOf (SPto (rowsB a h bs) q k lift k ++ List.replicate j (rowB a bs k))).map Value.bool) ∧ (∀ g, (Value.slice Z (z * a) cZ).ownBlock = some g → g ≠ bl) ∧ Rd wz (some ⟨bl, 0, none⟩) a ((rowB a bs k).map Value.bool) ∧ St w [Fact.blk w.heap.size 25 #[.int .i64 a, .int .i64 h, .slice A nA cA], Fact.blk (w.heap.size + 1) 46 #[.int .u8 q, .int .i64 k], Fact.blk (w.heap.size + 1 + 1) 25 #[.int .i64 0, .int .i64 0, .slice none 0 0]] wz) (fun i _ => 1 - (intOf i).toNat)
            case atStart => exact ⟨0, cnt, cB, B, Nat.zero_le _, rfl, rfl, hblk4, by rw [List.replicate_zero, List.append_nil]; exact hown4, hnb4, hRl, S4⟩
            case round =>
              clear hblk4 hown4 hnb4 hRl S4
              obtain ⟨j, z, cZ, Z, hj, rfl, hz, hblk, hown, hnb, hRl, S5⟩ := hrel
              have HZ := Lib.hid hz
              have hz66 : z ≤ 70 := by omega
              have hza : z * a ≤ 70 * 40 := Nat.mul_le_mul hz66 ha
              clear hz
              by_cases hltj : j < 1
              · have hbl5 := hRl.lt bl 0 rfl (by omega)
                obtain ⟨k0, k1, k2⟩ := hblk.cell3
                obtain ⟨M, hM⟩ : ∃ M, z * a = M := ⟨_, rfl⟩
                rw [hM] at hblk hown hnb k2 hza
                have HMM := Lib.hid hM
                clear hM
                go_wp2_with (at_builtin; go_loud (refine wpList_append_lies _ rfl (.tmp 86) (.tmp 87) 23 rfl w.heap.size 4 i0 (.bool false) 1 1 Try.underlying23 hi0 hz0 hz1 hz2 rfl (by omega) (.slice Z M cZ) M _ rfl hown ⟨bl, 0, none⟩ a _ ((rowB a bs k).map Value.bool) rfl (by have h1 := hRl.len; omega) (fun jj uu hu => by rw [Addr.add_lit]; exact hRl.lit jj uu hu) (oneCell_bools _) (by omega) (by unfold maxLen; omega) (by omega) S5.size _ rfl ?_))
                intro gN cap w6 hown6 hg6 hat6 hlt6
                have hblk6 := hblk.grown hg6 (own_blk_ne hown hblk (by decide))
                obtain ⟨e0, e1, e2⟩ := hblk6.cell3
                obtain ⟨g0, g1, g2⟩ := hblk6.frozen3
                have hRl6 := hRl.grown2 hg6 (fun b o hA hl => by injection hA with hA; injection hA with hA1 _; subst hA1; exact fun e => hnb _ e.symm rfl)
                have S6 : St w [Fact.blk w.heap.size 25 #[.int .i64 a, .int .i64 h, .slice A nA cA], Fact.blk (w.heap.size + 1) 46 #[.int .u8 q, .int .i64 k], Fact.blk (w.heap.size + 1 + 1) 25 #[.int .i64 0, .int .i64 0, .slice none 0 0]] w6 := st_grown S5 hg6 (fun g e => (hown.lt g e).1) (fun f hf => by obtain ⟨g, t, cs, e, ht, _⟩ := HTY.out f hf; subst e; exact ⟨g, t, cs, rfl, own_blk_ne hown (S5.2 _ hf) ht⟩)
                clear k0 k1 k2
                have hblk7 : Blk ((w6.setCell ⟨G8, 2, none⟩ (.slice (some ⟨gN, 0, none⟩) (M + a) cap)).setCell ⟨G8, 1, none⟩ (.int .i64 ((z : Int) + 1))) G8 25 #[.int .i64 a, .int .i64 ((z : Int) + 1), .slice (some ⟨gN, 0, none⟩) (M + a) cap] := by simpa using (hblk6.set_ 2 (.slice (some ⟨gN, 0, none⟩) (M + a) cap)).set_ 1 (.int .i64 ((z : Int) + 1))
                have hne6 := own_blk_ne hown6 hblk6 (by decide)
                have hown7 := own_far (own_far hown6 (p := ⟨G8, 2, none⟩) hne6 (.slice (some ⟨gN, 0, none⟩) (M + a) cap)) (p := ⟨G8, 1, none⟩) hne6 (.int .i64 ((z : Int) + 1))
                have hRl7 := (hRl6.far (p := ⟨G8, 2, none⟩) (fun b o hA _ => by injection hA with hA; injection hA with hA1 _; subst hA1; exact hblG) (.slice (some ⟨gN, 0, none⟩) (M + a) cap)).far (p := ⟨G8, 1, none⟩) (fun b o hA _ => by injection hA with hA; injection hA with hA1 _; subst hA1; exact hblG) (.int .i64 ((z : Int) + 1))
                have hnef : ∀ f ∈ ([Fact.blk w.heap.size 25 #[.int .i64 a, .int .i64 h, .slice A nA cA], Fact.blk (w.heap.size + 1) 46 #[.int .u8 q, .int .i64 k], Fact.blk (w.heap.size + 1 + 1) 25 #[.int .i64 0, .int .i64 0, .slice none 0 0]] : List Fact), ∃ g t cs, f = .blk g t cs ∧ g ≠ G8 := fun f hf => by obtain ⟨g, t, cs, e, _, hne⟩ := HTY.out f hf; exact ⟨g, t, cs, e, hne⟩
                have S7 := st_set (st_set S6 hG8 2 (.slice (some ⟨gN, 0, none⟩) (M + a) cap) hnef) hG8 1 (.int .i64 ((z : Int) + 1)) hnef
                go_wp2_with fail
                go_roundw
                case rel =>
                  refine ⟨j + 1, z + 1, cap, some ⟨gN, 0, none⟩, by omega, by go_num, by have := HZ.out; omega, ?_, ?_, ?_, hRl7, S7⟩
                  · rw [Nat.succ_mul, HMM.out, show (((z + 1 : Nat) : Int)) = (z : Int) + 1 by omega]; exact hblk7
                  · rw [Nat.succ_mul, HMM.out, List.replicate_succ', ← List.append_assoc, bitsOf_snoc, List.map_append]
                    exact hown7
                  · intro g hg e
                    have h1 : gN = g := by simpa [Value.ownBlock] using hg
                    subst h1
                    rcases hat6 with h2 | h2
                    · exact hnb _ h2 e
                    · rw [← e, h2] at hbl5; exact absurd hbl5 (Nat.lt_irrefl _)
                case measure => simp [intOf]; omega
              · obtain rfl : j = 1 := by omega
                go_wp2_with fail
                go_roundw
                case rel => exact ⟨k + 1, z, cZ, Z, by omega, by go_num, by unfold SPto; rw [List.length_append, HSR.out, List.length_replicate, HZ.out, HCN.out], hblk, by unfold SPto; rw [HSR.out]; exact hown, S5⟩
                case measure => simp [intOf]; omega
          · have hyb : ((y : Int) == (k : Int)) = false := by simp; omega
            have HSR := Lib.hid (show SProw (rowsB a h bs) q k lift y = List.replicate 1 (rowB a bs y) by unfold SProw; rw [if_neg hyk, rowsB_getD hlt]; rfl)
            obtain ⟨bl, hArl, hbl1, hbl2, _⟩ := own_form hownr (by omega)
            subst hArl
            have hRl := rd_of_own hownr
            have hnb4 : ∀ g, (Value.slice B (cnt * a) cB).ownBlock = some g → g ≠ bl := fun g hg e => by have := (hown.lt g hg).2; omega
            have hblG : bl ≠ G8 := fun e => own_blk_ne hownr hblk4 (by decide) (by simp [Value.ownBlock, e])
            go_wp2_with fail
            clear c0 c1 c2 d0 d1
            go_loopw [12] (fun i wz => ∃ (j z cZ : Nat) (Z : Option Addr), j ≤ 1 ∧ i = .int .i64 j ∧ z = cnt + j ∧ Blk wz G8 25 #[.int .i64 a, .int .i64 z, .slice Z (z * a) cZ] ∧ wz.ownsRow w.heap.size 4 1 (.slice Z (z * a) cZ) (z * a) ((bitsOf (SPto (rowsB a h bs) q k lift y ++ List.replicate j (rowB a bs y))).map Value.bool) ∧ (∀ g, (Value.slice Z (z * a) cZ).ownBlock = some g → g ≠ bl) ∧ Rd wz (some ⟨bl, 0, none⟩) a ((rowB a bs y).map Value.bool) ∧ St w [Fact.blk w.heap.size 25 #[.int .i64 a, .int .i64 h, .slice A nA cA], Fact.blk (w.heap.size + 1) 46 #[.int .u8 q, .int .i64 k], Fact.blk (w.heap.size + 1 + 1) 25 #[.int .i64 0, .int .i64 0, .slice none 0 0]] wz) (fun i _ => 1 - (intOf i).toNat)
            case atStart => exact ⟨0, cnt, cB, B, Nat.zero_le _, rfl, rfl, hblk4, by rw [List.replicate_zero, List.append_nil]; exact hown4, hnb4, hRl, S4⟩
            case round =>
              clear hblk4 hown4 hnb4 hRl S4
              obtain ⟨j, z, cZ, Z, hj, rfl, hz, hblk, hown, hnb, hRl, S5⟩ := hrel
              have HZ := Lib.hid hz
              have hz66 : z ≤ 70 := by omega
              have hza : z * a ≤ 70 * 40 := Nat.mul_le_mul hz66 ha
              clear hz
              by_cases hltj : j < 1
              · have hbl5 := hRl.lt bl 0 rfl (by omega)
                obtain ⟨k0, k1, k2⟩ := hblk.cell3
                obtain ⟨M, hM⟩ : ∃ M, z * a = M := ⟨_, rfl⟩
                rw [hM] at hblk hown hnb k2 hza
                have HMM := Lib.hid hM
                clear hM
                go_wp2_with (at_builtin; go_loud (refine wpList_append_lies _ rfl (.tmp 86) (.tmp 87) 23 rfl w.heap.size 4 i0 (.bool false) 1 1 Try.underlying23 hi0 hz0 hz1 hz2 rfl (by omega) (.slice Z M cZ) M _ rfl hown ⟨bl, 0, none⟩ a _ ((rowB a bs y).map Value.bool) rfl (by have h1 := hRl.len; omega) (fun jj uu hu => by rw [Addr.add_lit]; exact hRl.lit jj uu hu) (oneCell_bools _) (by omega) (by unfold maxLen; omega) (by omega) S5.size _ rfl ?_))
                intro gN cap w6 hown6 hg6 hat6 hlt6
                have hblk6 := hblk.grown hg6 (own_blk_ne hown hblk (by decide))
                obtain ⟨e0, e1, e2⟩ := hblk6.cell3
                obtain ⟨g0, g1, g2⟩ := hblk6.frozen3
                have hRl6 := hRl.grown2 hg6 (fun b o hA hl => by injection hA with hA; injection hA with hA1 _; subst hA1; exact fun e => hnb _ e.symm rfl)
                have S6 : St w [Fact.blk w.heap.size 25 #[.int .i64 a, .int .i64 h, .slice A nA cA], Fact.blk (w.heap.size + 1) 46 #[.int .u8 q, .int .i64 k], Fact.blk (w.heap.size + 1 + 1) 25 #[.int .i64 0, .int .i64 0, .slice none 0 0]] w6 := st_grown S5 hg6 (fun g e => (hown.lt g e).1) (fun f hf => by obtain ⟨g, t, cs, e, ht, _⟩ := HTY.out f hf; subst e; exact ⟨g, t, cs, rfl, own_blk_ne hown (S5.2 _ hf) ht⟩)
                clear k0 k1 k2
                have hblk7 : Blk ((w6.setCell ⟨G8, 2, none⟩ (.slice (some ⟨gN, 0, none⟩) (M + a) cap)).setCell ⟨G8, 1, none⟩ (.int .i64 ((z : Int) + 1))) G8 25 #[.int .i64 a, .int .i64 ((z : Int) + 1), .slice (some ⟨gN, 0, none⟩) (M + a) cap] := by simpa using (hblk6.set_ 2 (.slice (some ⟨gN, 0, none⟩) (M + a) cap)).set_ 1 (.int .i64 ((z : Int) + 1))
                have hne6 := own_blk_ne hown6 hblk6 (by decide)
                have hown7 := own_far (own_far hown6 (p := ⟨G8, 2, none⟩) hne6 (.slice (some ⟨gN, 0, none⟩) (M + a) cap)) (p := ⟨G8, 1, none⟩) hne6 (.int .i64 ((z : Int) + 1))
                have hRl7 := (hRl6.far (p := ⟨G8, 2, none⟩) (fun b o hA _ => by injection hA with hA; injection hA with hA1 _; subst hA1; exact hblG) (.slice (some ⟨gN, 0, none⟩) (M + a) cap)).far (p := ⟨G8, 1, none⟩) (fun b o hA _ => by injection hA with hA; injection hA with hA1 _; subst hA1; exact hblG) (.int .i64 ((z : Int) + 1))
                have hnef : ∀ f ∈ ([Fact.blk w.heap.size 25 #[.int .i64 a, .int .i64 h, .slice A nA cA], Fact.blk (w.heap.size + 1) 46 #[.int .u8 q, .int .i64 k], Fact.blk (w.heap.size + 1 + 1) 25 #[.int .i64 0, .int .i64 0, .slice none 0 0]] : List Fact), ∃ g t cs, f = .blk g t cs ∧ g ≠ G8 := fun f hf => by obtain ⟨g, t, cs, e, _, hne⟩ := HTY.out f hf; exact ⟨g, t, cs, e, hne⟩
                have S7 := st_set (st_set S6 hG8 2 (.slice (some ⟨gN, 0, none⟩) (M + a) cap) hnef) hG8 1 (.int .i64 ((z : Int) + 1)) hnef
                go_wp2_with fail
                go_roundw
                case rel =>
                  refine ⟨j + 1, z + 1, cap, some ⟨gN, 0, none⟩, by omega, by go_num, by have := HZ.out; omega, ?_, ?_, ?_, hRl7, S7⟩
                  · rw [Nat.succ_mul, HMM.out, show (((z + 1 : Nat) : Int)) = (z : Int) + 1 by omega]; exact hblk7
                  · rw [Nat.succ_mul, HMM.out, List.replicate_succ', ← List.append_assoc, bitsOf_snoc, List.map_append]
                    exact hown7
                  · intro g hg e
                    have h1 : gN = g := by simpa [Value.ownBlock] using hg
                    subst h1
                    rcases hat6 with h2 | h2
                    · exact hnb _ h2 e
                    · rw [← e, h2] at hbl5; exact absurd hbl5 (Nat.lt_irrefl _)
                case measure => simp [intOf]; omega
              · obtain rfl : j = 1 := by omega
                go_wp2_with fail
                go_roundw
                case rel => exact ⟨y + 1, z, cZ, Z, by omega, by go_num, by unfold SPto; rw [List.length_append, HSR.out, List.length_replicate, HZ.out, HCN.out], hblk, by unfold SPto; rw [HSR.out]; exact hown, S5⟩
                case measure => simp [intOf]; omega
        · obtain rfl : y = h := by omega
          have HPC := Lib.hid (fun u => rpcheck_any a cnt B (cnt * a) cB u)
          have hall := SPto_all (q := q) (lift := lift) hkh (rowsB_len a y bs)
          have hcP : cnt = P.length := by rw [HCN.out, hall, HPP.out]
          have HFL := Lib.hid (show cnt * a = P.flatten.length by rw [flat_len HROWS.out, hcP])
          have HBS := Lib.hid (show bitsOf (SPto (rowsB a y bs) q k lift y) = P.flatten by rw [hall, HPP.out]; rfl)
          rw [HBS.out] at hown
          have HCP := Lib.hid hcP
          rw [← hcP, ← HFL.out] at HX5
          clear hall hcP
          obtain ⟨FL, hFL⟩ : ∃ FL, cnt * a = FL := ⟨_, rfl⟩
          rw [hFL] at HPC HX5 hblk hown
          clear hFL d0 d1
          obtain ⟨k0, k1, k2⟩ := hblk.cell3
          by_cases hk3 : chkP a cnt FL = 0
          · have hkb3 : (chkP a cnt FL != 0) = false := by simpa using hk3
            have HXX := Lib.hid (HX5.out.2 hk3)
            generalize chkP a cnt FL = K3 at *
            go_wp2_with fail
            refine (HPC.out _).mono ?_
            rintro e w5 ⟨rfl, hb5⟩
            have S5 := S3.keep hb5
            have hblk5 := hblk.keep hb5
            have hown5 := own_below hown hb5
            clear c0 c1 c2 k0 k1 k2
            obtain ⟨c0, c1, c2⟩ := hblk5.cell3
            obtain ⟨r0, r1, r2⟩ := (S5.blk 2 rfl).cell3
            obtain ⟨f0, f1, f2⟩ := (S5.blk 2 rfl).frozen3
            obtain ⟨q0, q1, q2⟩ := ((S5.blk 2 rfl).set3 (.int .i64 a) (.int .i64 cnt) (.slice B FL cB)).cell3
            go_wp2_with fail
            refine bodyPost_ret (v := .tuple #[.agg #[.int .i64 a, .int .i64 cnt, .slice B FL cB], .int .i64 0]) (by simp [results, Try.results26, go_sem, q0, q1, q2]) rfl ?_
            rw [HXX.out]
            exact ⟨B, _, cB, by rw [HCP.out]; rfl, own_set3 hown5 (S5.blk 2 rfl) (by decide) _ _ _, below_set3 S5.below (by omega) _ _ _⟩
          · have hkb3 : (chkP a cnt FL != 0) = true := by simpa using hk3
            have HXX := Lib.hid (HX5.out.1 hk3)
            generalize chkP a cnt FL = K3 at *
            go_wp2_with fail
            refine (HPC.out _).mono ?_
            rintro e w5 ⟨rfl, hb5⟩
            have S5 := S3.keep hb5
            have hblk5 := hblk.keep hb5
            clear c0 c1 c2 k0 k1 k2
            obtain ⟨c0, c1, c2⟩ := hblk5.cell3
            go_wp2_with fail
            refine (HPC.out _).mono ?_
            rintro e w6 ⟨rfl, hb6⟩
            have S6 := S5.keep hb6
            clear c0 c1 c2
            obtain ⟨r0, r1, r2⟩ := (S6.blk 2 rfl).cell3
            obtain ⟨f0, f1, f2⟩ := (S6.blk 2 rfl).frozen3
            obtain ⟨q0, q1, q2⟩ := ((S6.blk 2 rfl).set3 (.int .i64 0) (.int .i64 0) (.slice none 0 0)).cell3
            go_wp2_with fail
            refine bodyPost_ret (v := .tuple #[.agg #[.int .i64 0, .int .i64 0, .slice none 0 0], .int .i64 K3]) (by simp [results, Try.results26, go_sem, q0, q1, q2]) rfl ?_
            rw [HXX.out]
            exact ⟨none, 0, 0, rfl, World.ownsRow_nil _ _ _ _, below_set3 S6.below (by omega) _ _ _⟩
    · exfalso
      have h1 : q = 0 := by simpa using hb0
      subst h1
      exact absurd hb3 (by decide)
  · have hkb : (chkP W H nA != 0) = true := by simpa using hk
    have HX := Lib.hid (spoilG_1 (q := q) (k := k0) (lift := lift) (show chkP W H bs.length ≠ 0 by rw [hl]; exact hk))
    rw [hl] at HX
    generalize spoilG W H bs q k0 lift = R at *
    generalize chkP W H nA = K at *
    clear hr hl hk hrl
    go_enter Try.func26, Try.ntmps26
    go_wp2_with fail
    refine (HP.out _).mono ?_
    rintro e w1 ⟨rfl, hb1⟩
    have S1 := S0.keep hb1
    clear c0 c1 c2 d0 d1
    obtain ⟨c0, c1, c2⟩ := (S1.blk 0 rfl).cell3
    obtain ⟨d0, d1⟩ := (S1.blk 1 rfl).cell2
    go_wp2_with fail
    refine (HP.out _).mono ?_
    rintro e w2 ⟨rfl, hb2⟩
    have S2 := S1.keep hb2
    clear c0 c1 c2 d0 d1
    obtain ⟨r0, r1, r2⟩ := (S2.blk 2 rfl).cell3
    obtain ⟨f0, f1, f2⟩ := (S2.blk 2 rfl).frozen3
    obtain ⟨q0, q1, q2⟩ := ((S2.blk 2 rfl).set3 (.int .i64 0) (.int .i64 0) (.slice none 0 0)).cell3
    go_wp2_with fail
    refine bodyPost_ret (v := .tuple #[.agg #[.int .i64 0, .int .i64 0, .slice none 0 0], .int .i64 K]) (by simp [results, Try.results26, go_sem, q0, q1, q2]) rfl ?_
    rw [HX.out]
    exact ⟨none, 0, 0, rfl, World.ownsRow_nil _ _ _ _, below_set3 S2.below (by omega) _ _ _⟩
end Go.Proofs.Ytfjdlbilnoojkaa
