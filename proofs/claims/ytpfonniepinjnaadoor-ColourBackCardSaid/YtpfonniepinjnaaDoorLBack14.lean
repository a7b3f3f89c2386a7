/- The law ColourBack, walked: it answers true and turns nothing that was there. -/
import Derived.Test.YtpfonniepinjnaaDoorIBackP
import Derived.Test.YtpfonniepinjnaaDoorIParse
import Derived.Test.YtpfonniepinjnaaDoorIText
import Derived.Test.YtpfonniepinjnaaDoorCounts
import Derived.Test.YtpfonniepinjnaaDoorITurnF
import Derived.Test.YtpfonniepinjnaaDoorISame
import Derived.Test.YtpfonniepinjnaaDoorISameP
import Derived.Test.YtpfonniepinjnaaDoorLSame
import Derived.Test.YtpfonniepinjnaaDoorGreatI
import Derived.Test.YtpfonniepinjnaaDoorAliveC
namespace Go.Proofs.YtpfonniepinjnaaDoor
open Go.RowKit

theorem psameI_self (m : Im) (hs : m.c.length ≤ 4200) (A A2 : Option Addr) (n c n2 c2 : Nat) (w : World) (hr : Rd w A n (m.c.map (Value.int .i64))) (hr2 : Rd w A2 n2 (m.c.map (Value.int .i64))) :
    Calls Tryd.prog 8 #[.agg #[.int .i64 m.w, .int .i64 m.h, .slice A n c], .agg #[.int .i64 m.w, .int .i64 m.h, .slice A2 n2 c2]] w fun e w' => e = .returned (.bool true) ∧ Below w.heap.size w w' := by
  have hl : m.c.length = n := by simpa using hr.len
  have h := rsameI_any m m A A2 n c n2 c2 w hr hr2 (by omega)
  rw [show sameI m m = true from sameI_iff.2 rfl] at h
  exact h
theorem turn_turn {a b : Nat} {l : List Int} (h : chkI ⟨a, b, l⟩ = 0) : ∃ t : List Int, turnI ⟨a, b, l⟩ = (⟨b, a, t⟩, 0) ∧ chkI ⟨b, a, t⟩ = 0 ∧ turnI ⟨b, a, t⟩ = (⟨a, b, l⟩, 0) ∧ cntL t t.length = cntL l l.length ∧ t.length = l.length := by
  obtain ⟨a', b', e1, e2, ha1, ha, hb1, hb, hl, hf⟩ := chkI_zero h
  have e1 : a = a' := Int.ofNat.inj e1
  have e2 : b = b' := Int.ofNat.inj e2
  subst e1 e2
  simp only at hl hf
  have hfc : ∀ x y, x < a → y < b → 0 ≤ l.getD (y * a + x) 0 ∧ l.getD (y * a + x) 0 ≤ 15 := fun x y hx hy => fineL_get hf (by rw [hl]; exact Pl.cell_lt hx hy)
  obtain ⟨t, ht⟩ : ∃ t, (Pl.tab b a fun x y => l.getD (x * a + y) 0) = t := ⟨_, rfl⟩
  have htl : t.length = a * b := by rw [← ht]; exact Pl.tab_length
  have hc2 : chkI ⟨b, a, t⟩ = 0 := by rw [← ht]; exact chkI_tab hb1 hb ha1 ha fun x y hx hy => hfc y x hy hx
  have hback : (Pl.tab a b fun x y => t.getD (x * b + y) 0) = l := by
    refine ((Pl.tab_self (d := (0 : Int)) hl).trans (Pl.tab_congr fun x y hx hy => ?_)).symm
    rw [← ht, List.getD_eq_getElem?_getD (l := Pl.tab b a _), Pl.tab_get hy hx]
    rfl
  refine ⟨t, by rw [turnI_mk h, ht], hc2, by rw [turnI_mk hc2, hback], ?_, by rw [htl, hl, Nat.mul_comm]⟩
  refine cntL_congr fun v => ?_
  rw [← ht]
  have e := count_turn v a b fun x y => l.getD (y * a + x) 0
  rw [← Pl.tab_self (d := (0 : Int)) hl] at e
  exact e
theorem igreat_to {b : Bool} (W H : Int) (n : Nat) (h : decide (4200 < n) = b) (A : Option Addr) (c : Nat) (w : World) :
    Calls Tryd.prog 10 #[.agg #[.int .i64 W, .int .i64 H, .slice A n c]] w fun e w' => e = .returned (.bool b) ∧ Below w.heap.size w w' := h ▸ greatI_any W H A n c w

set_option maxHeartbeats 4000000 in
set_option maxRecDepth 100000 in
/-- The image is too large or none. -/
theorem back_no (m : Im) (A : Option Addr) (n c : Nat) (w : World) (hr : Rd w A n (m.c.map (Value.int .i64))) (h : 4200 < n ∨ chkI m ≠ 0) :
    Calls Tryd.prog 4 #[.agg #[.int .i64 m.w, .int .i64 m.h, .slice A n c]] w fun e w' => e = .returned (.bool true) ∧ Below w.heap.size w w' := by
  have S0 := ((St.start w).addRd hr).box #[.int .i64 m.w, .int .i64 m.h, .slice A n c] 24
  simp only [List.nil_append, List.cons_append] at S0
  have HA := Lib.hid (fun W => alive_any W)
  have HG := Lib.hid (fun W => igreat_to m.w m.h n rfl A c W)
  by_cases hg : 4200 < n
  · rw [show decide (4200 < n) = true from decide_eq_true hg] at HG
    clear h hr
    go_enter Tryd.func4, Tryd.ntmps4
    go_wp2_with fail
    refine (HA.out _).mono ?_
    rintro e w1 ⟨rfl, hb1⟩
    have S1 := S0.keep hb1
    obtain ⟨m0, m1, m2⟩ := (S1.blk 1 rfl).cell3
    go_wp2_with fail
    refine (HG.out _).mono ?_
    rintro e w2 ⟨rfl, hb2⟩
    go_wp2_with fail
    go_ret
    exact ⟨rfl, (S1.keep hb2).below⟩
  · have hck : chkI m ≠ 0 := h.resolve_left hg
    have HC := Lib.hid (fun W h => rcheckI_to m A n c W (rfl : chkI m = chkI m) h (by omega))
    obtain ⟨k, hk⟩ : ∃ k, chkI m = k := ⟨_, rfl⟩
    rw [hk] at HC hck
    have hkb : (k != 0) = true := by simpa using hck
    rw [show decide (4200 < n) = false from decide_eq_false hg] at HG
    clear h hr
    go_enter Tryd.func4, Tryd.ntmps4
    go_wp2_with fail
    refine (HA.out _).mono ?_
    rintro e w1 ⟨rfl, hb1⟩
    have S1 := S0.keep hb1
    obtain ⟨m0, m1, m2⟩ := (S1.blk 1 rfl).cell3
    go_wp2_with fail
    refine (HG.out _).mono ?_
    rintro e w2 ⟨rfl, hb2⟩
    have S2 := S1.keep hb2
    clear m0 m1 m2
    obtain ⟨m0, m1, m2⟩ := (S2.blk 1 rfl).cell3
    go_wp2_with fail
    refine (HC.out _ (S2.rd 0 rfl)).mono ?_
    rintro e w3 ⟨rfl, hb3⟩
    go_wp2_with fail
    go_ret
    exact ⟨rfl, (S2.keep hb3).below⟩

set_option maxHeartbeats 8000000 in
set_option maxRecDepth 100000 in
theorem back_yes (a b : Nat) (l : List Int) (A : Option Addr) (n c : Nat) (w : World) (hr : Rd w A n (l.map (Value.int .i64))) (hnc : n ≤ c) (hck : chkI ⟨a, b, l⟩ = 0) :
    Calls Tryd.prog 4 #[.agg #[.int .i64 a, .int .i64 b, .slice A n c]] w fun e w' => e = .returned (.bool true) ∧ Below w.heap.size w w' := by
  have hln : l.length = n := by simpa using hr.len
  have hsm := chkI_small hck
  simp only at hsm
  obtain ⟨t, ht1, ht2, ht3, ht4, ht5⟩ := turn_turn hck
  have htx : (textU a b l).length ≤ 1048576 := by
    obtain ⟨a', b', e1, e2, ha1, ha, hb1, hb, hl, hf⟩ := chkI_zero hck
    have e1 : a = a' := Int.ofNat.inj e1
    have e2 : b = b' := Int.ofNat.inj e2
    subst e1 e2
    rw [textU_length hl]
    have : b * (a + 1) ≤ 64 * 65 := Nat.mul_le_mul hb (by omega)
    omega
  have HA := Lib.hid (fun W => alive_any W)
  have HG := Lib.hid (fun W => igreat_to (a : Int) (b : Int) n (decide_eq_false (by omega : ¬ 4200 < n)) A c W)
  have HC := Lib.hid (fun W h => rcheckI_to ⟨a, b, l⟩ A n c W hck h (by omega))
  have HT := Lib.hid (fun W h => (textI_ok hck) ▸ itext_any ⟨a, b, l⟩ A n c W h (by omega) hnc)
  have HP := Lib.hid (fun W => (parse_textU hck) ▸ iparse_any (textU a b l) W htx)
  have HU := Lib.hid (fun W h => ht1 ▸ turnI_any ⟨a, b, l⟩ A n c W h (by omega))
  have HV := Lib.hid (fun B k d W h (hk : k ≤ 1048576) => ht3 ▸ turnI_any ⟨b, a, t⟩ B k d W h hk)
  have HN := Lib.hid (fun W h => (countsI_ok hck) ▸ counts_any ⟨a, b, l⟩ A n c W h (by omega))
  have HM := Lib.hid (fun B k d W h (hk : k ≤ 1048576) => (countsI_ok ht2) ▸ counts_any ⟨b, a, t⟩ B k d W h hk)
  have HS := Lib.hid (fun A A2 n c n2 c2 W h1 h2 => psameI_self ⟨a, b, l⟩ (by show l.length ≤ 4200; omega) A A2 n c n2 c2 W h1 h2)
  have HQ := Lib.hid (fun A A2 n c n2 c2 W h1 h2 (hn : n ≤ 1048576) => (sameI_self ⟨a, b, l⟩) ▸ isame_any ⟨a, b, l⟩ ⟨a, b, l⟩ A A2 n c n2 c2 W h1 h2 hn)
  have HL := Lib.hid (fun A A' n n' c c' W h h' (hn : n ≤ 1048576) => lsame_any (cntL l l.length) A A' n n' c c' W h h' hn)
  have hpl := cntL_len l l.length
  have HPS := Lib.hid (fun k (hk : k ≤ 16) => psum_bound l (by omega) k hk)
  have HPA := Lib.hid (psum_all (by obtain ⟨_, _, _, _, _, _, _, _, _, hf⟩ := chkI_zero hck; exact hf : fineL l = true))
  have HPD := Lib.hid (fun k => (show psum l (k + 1) = psum l k + (cntL l l.length).getD k 0 from rfl))
  simp only [ht4] at HM
  clear ht1 ht2 ht3 ht4 hck htx
  have S0 := ((St.start w).addRd hr).box #[.int .i64 a, .int .i64 b, .slice A n c] 24
  simp only [List.nil_append, List.cons_append] at S0
  clear hr
  generalize textU a b l = tx at *
  generalize hcn : cntL l l.length = cn at *
  go_enter Tryd.func4, Tryd.ntmps4
  go_wp2_with fail
  refine (HA.out _).mono ?_
  rintro e w1 ⟨rfl, hb1⟩
  have S1 := S0.keep hb1
  obtain ⟨m0, m1, m2⟩ := (S1.blk 1 rfl).cell3
  go_wp2_with fail
  refine (HG.out _).mono ?_
  rintro e w2 ⟨rfl, hb2⟩
  have S2 := S1.keep hb2
  clear m0 m1 m2 S1
  obtain ⟨m0, m1, m2⟩ := (S2.blk 1 rfl).cell3
  go_wp2_with fail
  refine (HC.out _ (S2.rd 0 rfl)).mono ?_
  rintro e w3 ⟨rfl, hb3⟩
  have S3 := S2.keep hb3
  clear m0 m1 m2 S2
  obtain ⟨m0, m1, m2⟩ := (S3.blk 1 rfl).cell3
  go_wp2_with fail
  refine (HT.out _ (S3.rd 0 rfl)).mono ?_
  rintro e w4 ⟨rfl, hb4⟩
  have S4 := S3.keep hb4
  clear m0 m1 m2 S3
  go_wp2_with fail
  refine (HP.out _).mono ?_
  rintro e w5 ⟨A5, n5, c5, rfl, hown5, hb5⟩
  simp only at hown5 ⊢
  have S5 := ((S4.keep hb5).addRd (rd_of_own hown5)).box #[.int .i64 a, .int .i64 b, .slice A5 n5 c5] 24
  simp only [List.nil_append, List.cons_append] at S5
  clear S4 hown5
  obtain ⟨m0, m1, m2⟩ := (S5.blk 1 rfl).cell3
  go_wp2_with fail
  refine (HU.out _ (S5.rd 0 rfl)).mono ?_
  rintro e w6 ⟨A6, n6, c6, rfl, hown6, hb6⟩
  simp only at hown6 ⊢
  have hn6 : n6 ≤ 4200 := by have := hown6.1; simp at this; omega
  have S6 := ((S5.keep hb6).addRd (rd_of_own hown6)).box #[.int .i64 b, .int .i64 a, .slice A6 n6 c6] 24
  simp only [List.nil_append, List.cons_append] at S6
  clear S5 hown6 m0 m1 m2
  obtain ⟨m0, m1, m2⟩ := (S6.blk 5 rfl).cell3
  go_wp2_with fail
  refine (HV.out _ _ _ _ (S6.rd 4 rfl) (by omega)).mono ?_
  rintro e w7 ⟨A7, n7, c7, rfl, hown7, hb7⟩
  simp only at hown7 ⊢
  have hn7 : n7 ≤ 4200 := by have := hown7.1; simp at this; omega
  have S7 := ((S6.keep hb7).addRd (rd_of_own hown7)).box #[.int .i64 a, .int .i64 b, .slice A7 n7 c7] 24
  simp only [List.nil_append, List.cons_append] at S7
  clear S6 hown7 m0 m1 m2
  obtain ⟨m0, m1, m2⟩ := (S7.blk 1 rfl).cell3
  go_wp2_with fail
  refine (HN.out _ (S7.rd 0 rfl)).mono ?_
  rintro e w8 ⟨A8, n8, c8, rfl, hown8, hb8⟩
  simp only at hown8 ⊢
  obtain rfl : n8 = 16 := by have := hown8.1; simp at this; omega
  have S8 := (S7.keep hb8).addRd (rd_of_own hown8)
  simp only [List.nil_append, List.cons_append] at S8
  clear S7 hown8 m0 m1 m2
  obtain ⟨m0, m1, m2⟩ := (S8.blk 5 rfl).cell3
  go_wp2_with fail
  refine (HM.out _ _ _ _ (S8.rd 4 rfl) (by omega)).mono ?_
  rintro e w9 ⟨A9, n9, c9, rfl, hown9, hb9⟩
  simp only at hown9 ⊢
  obtain rfl : n9 = 16 := by have := hown9.1; simp at this; omega
  have S9 := (S8.keep hb9).addRd (rd_of_own hown9)
  simp only [List.nil_append, List.cons_append] at S9
  clear S8 hown9 m0 m1 m2
  go_wp2_with fail
  go_loopw [16, 17] (fun sv kv wr => ∃ k : Nat, k ≤ 16 ∧ sv = .int .i64 (psum l k) ∧ kv = .int .i64 k ∧ wr = w9) (fun _ kv _ => 16 - (intOf kv).toNat)
  case atStart => exact ⟨0, by omega, rfl, rfl, rfl⟩
  case round =>
    obtain ⟨k, hk, rfl, rfl, hw⟩ := hrel
    subst hw
    by_cases hlt : k < 16
    · obtain ⟨bl, o, hA8, _, hc⟩ := (S9.rd 8 rfl).at_ (by omega)
      subst hA8
      have hcell := hc k (.int .i64 (cn.getD k 0)) (by rw [List.getElem?_map, List.getElem?_eq_getElem (by omega), List.getD_eq_getElem?_getD, List.getElem?_eq_getElem (by omega)]; rfl)
      clear hc
      have hd := HPD.out k
      obtain ⟨p1, p2⟩ := HPS.out k hk
      obtain ⟨p3, p4⟩ := HPS.out (k + 1) (by omega)
      rw [hd] at p3 p4
      generalize cn.getD k 0 = v at *
      generalize hp : psum l k = q at *
      have hq := Lib.hid hd
      clear hd
      have hwr : IntKind.i64.wrap (q + v) = q + v := wrap_small _ (by omega) (by omega)
      have hk1 : (k : Int) < 16 := by omega
      go_wp2_with fail
      go_roundw
      case rel => exact ⟨k + 1, by omega, by rw [hq.out], by push_cast; rfl, by trivial⟩
      case measure => simp [intOf]; omega
    · obtain rfl : k = 16 := by omega
      rw [HPA.out]
      obtain ⟨m0, m1, m2⟩ := (S9.blk 1 rfl).cell3
      obtain ⟨x0, x1, x2⟩ := (S9.blk 3 rfl).cell3
      rw [hln]
      go_wp2_with fail
      refine (HS.out _ _ _ _ _ _ _ (S9.rd 2 rfl) (S9.rd 0 rfl)).mono ?_
      rintro e w10 ⟨rfl, hb10⟩
      have S10 := S9.keep hb10
      clear m0 m1 m2 x0 x1 x2 S9
      obtain ⟨m0, m1, m2⟩ := (S10.blk 1 rfl).cell3
      obtain ⟨x0, x1, x2⟩ := (S10.blk 7 rfl).cell3
      go_wp2_with fail
      refine (HS.out _ _ _ _ _ _ _ (S10.rd 6 rfl) (S10.rd 0 rfl)).mono ?_
      rintro e w11 ⟨rfl, hb11⟩
      have S11 := S10.keep hb11
      clear m0 m1 m2 x0 x1 x2 S10
      go_wp2_with fail
      refine (HL.out _ _ _ _ _ _ _ (S11.rd 8 rfl) (S11.rd 9 rfl) (by omega)).mono ?_
      rintro e w12 ⟨rfl, hb12⟩
      have S12 := S11.keep hb12
      clear S11
      obtain ⟨m0, m1, m2⟩ := (S12.blk 1 rfl).cell3
      obtain ⟨x0, x1, x2⟩ := (S12.blk 7 rfl).cell3
      go_wp2_with fail
      refine (HQ.out _ _ _ _ _ _ _ (S12.rd 6 rfl) (S12.rd 0 rfl) (by omega)).mono ?_
      rintro e w13 ⟨rfl, hb13⟩
      have S13 := S12.keep hb13
      go_wp2_with fail
      go_ret
      exact ⟨by first | rfl | simp, S13.below⟩

theorem back_walk (m : Im) (A : Option Addr) (n c : Nat) (w : World) (hr : Rd w A n (m.c.map (Value.int .i64))) (hnc : n ≤ c) :
    Calls Tryd.prog 4 #[.agg #[.int .i64 m.w, .int .i64 m.h, .slice A n c]] w fun e w' => e = .returned (.bool true) ∧ Below w.heap.size w w' := by
  by_cases h : chkI m = 0
  · obtain ⟨a, b, l, rfl, _⟩ := img_open h
    exact back_yes a b l A n c w hr hnc h
  · exact back_no m A n c w hr (.inr h)
end Go.Proofs.YtpfonniepinjnaaDoor
