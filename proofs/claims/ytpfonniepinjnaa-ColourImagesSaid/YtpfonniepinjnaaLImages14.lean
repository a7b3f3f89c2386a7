/- The law ColourImages, walked: it answers true and turns nothing that was there. -/
import Derived.Test.YtpfonniepinjnaaCounts
import Derived.Test.YtpfonniepinjnaaRCounts
import Derived.Test.YtpfonniepinjnaaRIText
import Derived.Test.YtpfonniepinjnaaRITurn
import Derived.Test.YtpfonniepinjnaaTwinI
import Derived.Test.YtpfonniepinjnaaISame
import Derived.Test.YtpfonniepinjnaaISameP
import Derived.Test.YtpfonniepinjnaaLSame
import Derived.Test.YtpfonniepinjnaaMan
namespace Go.Proofs.Ytpfonniepinjnaa
open Go.RowKit

theorem igreat_to {b : Bool} (W H : Int) (n : Nat) (h : decide (4200 < n) = b) (A : Option Addr) (c : Nat) (w : World) :
    Calls Try.prog 28 #[.agg #[.int .i64 W, .int .i64 H, .slice A n c]] w fun e w' => e = .returned (.bool b) ∧ Below w.heap.size w w' := h ▸ greatI_any W H A n c w
theorem psameI_self (m : Im) (hs : m.c.length ≤ 4200) (A A2 : Option Addr) (n c n2 c2 : Nat) (w : World) (hr : Rd w A n (m.c.map (Value.int .i64))) (hr2 : Rd w A2 n2 (m.c.map (Value.int .i64))) :
    Calls Try.prog 23 #[.agg #[.int .i64 m.w, .int .i64 m.h, .slice A n c], .agg #[.int .i64 m.w, .int .i64 m.h, .slice A2 n2 c2]] w fun e w' => e = .returned (.bool true) ∧ Below w.heap.size w w' := by
  have hl : m.c.length = n := by simpa using hr.len
  have h := rsameI_any m m A A2 n c n2 c2 w hr hr2 (by omega)
  rw [show sameI m m = true from sameI_iff.2 rfl] at h
  exact h
theorem counts_len (m : Im) : (countsI m).1.length ≤ 16 := by
  by_cases h : chkI m = 0
  · rw [countsI_ok h, cntL_len]; exact Nat.le_refl _
  · rw [countsI_bad h]; exact Nat.zero_le _
theorem short_rd {l : List Int} (hl : l.length ≤ 16) {W : World} {A : Option Addr} {n : Nat} (h : Rd W A n (l.map (Value.int .i64))) : n ≤ 1048576 := by
  have e : l.length = n := by simpa using h.len
  omega
theorem turn_len (m : Im) : (turnI m).1.c.length ≤ 4200 := by
  by_cases h : chkI m = 0
  · obtain ⟨a, b, l, rfl, ha1, ha, hb1, hb, hl, _⟩ := img_open h
    rw [turnI_mk h]
    simp only [Pl.tab_length]
    have : a * b ≤ 64 * 64 := Nat.mul_le_mul ha hb
    omega
  · rw [turnI_bad h]; exact Nat.zero_le _

set_option linter.unusedVariables false in
set_option linter.unusedSimpArgs false in
set_option maxHeartbeats 40000000 in
set_option maxRecDepth 100000 in
theorem pimages_0 (m k : Im) (A B : Option Addr) (n c l d : Nat) (w : World) (hr : Rd w A n (m.c.map (Value.int .i64))) (hk : Rd w B l (k.c.map (Value.int .i64))) (h1 : 4200 < n) :
    Calls Try.prog 7 #[.agg #[.int .i64 m.w, .int .i64 m.h, .slice A n c], .agg #[.int .i64 k.w, .int .i64 k.h, .slice B l d]] w fun e w' => e = .returned (.bool true) ∧ Below w.heap.size w w' := by
  have HA := Lib.hid (fun A c W => igreat_to m.w m.h n (decide_eq_true h1) A c W)
  have S0 := ((((St.start w).addRd hr).addRd hk).box #[.int .i64 m.w, .int .i64 m.h, .slice A n c] 29).box #[.int .i64 k.w, .int .i64 k.h, .slice B l d] 29
  simp only [size_alloc1, List.nil_append, List.cons_append] at S0
  clear hr hk
  go_enter Try.func7, Try.ntmps7
  obtain ⟨ca0, ca1, ca2⟩ := (S0.blk 2 rfl).cell3
  go_wp2_with fail
  refine (HA.out _ _ _).mono ?_
  rintro e w1 ⟨rfl, hb1⟩
  have S1 := S0.keep hb1
  clear ca0 ca1 ca2
  go_wp2_with fail
  go_ret
  exact ⟨rfl, S1.below⟩

set_option linter.unusedVariables false in
set_option linter.unusedSimpArgs false in
set_option maxHeartbeats 40000000 in
set_option maxRecDepth 100000 in
theorem pimages_1 (m k : Im) (A B : Option Addr) (n c l d : Nat) (w : World) (hr : Rd w A n (m.c.map (Value.int .i64))) (hk : Rd w B l (k.c.map (Value.int .i64))) (h1 : ¬ 4200 < n) (h2 : 4200 < l) :
    Calls Try.prog 7 #[.agg #[.int .i64 m.w, .int .i64 m.h, .slice A n c], .agg #[.int .i64 k.w, .int .i64 k.h, .slice B l d]] w fun e w' => e = .returned (.bool true) ∧ Below w.heap.size w w' := by
  have HA := Lib.hid (fun A c W => igreat_to m.w m.h n (decide_eq_false h1) A c W)
  have HB := Lib.hid (fun A c W => igreat_to k.w k.h l (decide_eq_true h2) A c W)
  have S0 := ((((St.start w).addRd hr).addRd hk).box #[.int .i64 m.w, .int .i64 m.h, .slice A n c] 29).box #[.int .i64 k.w, .int .i64 k.h, .slice B l d] 29
  simp only [size_alloc1, List.nil_append, List.cons_append] at S0
  clear hr hk
  go_enter Try.func7, Try.ntmps7
  obtain ⟨ca0, ca1, ca2⟩ := (S0.blk 2 rfl).cell3
  go_wp2_with fail
  refine (HA.out _ _ _).mono ?_
  rintro e w1 ⟨rfl, hb1⟩
  have S1 := S0.keep hb1
  clear ca0 ca1 ca2
  obtain ⟨ca0, ca1, ca2⟩ := (S1.blk 3 rfl).cell3
  go_wp2_with fail
  refine (HB.out _ _ _).mono ?_
  rintro e w2 ⟨rfl, hb2⟩
  have S2 := S1.keep hb2
  clear ca0 ca1 ca2 S1
  go_wp2_with fail
  go_ret
  exact ⟨rfl, S2.below⟩

set_option linter.unusedVariables false in
set_option linter.unusedSimpArgs false in
set_option maxHeartbeats 40000000 in
set_option maxRecDepth 100000 in
theorem pimages_2 (m k : Im) (A B : Option Addr) (n c l d : Nat) (w : World) (hr : Rd w A n (m.c.map (Value.int .i64))) (hk : Rd w B l (k.c.map (Value.int .i64))) (h1 : ¬ 4200 < n) (h2 : ¬ 4200 < l) :
    Calls Try.prog 7 #[.agg #[.int .i64 m.w, .int .i64 m.h, .slice A n c], .agg #[.int .i64 k.w, .int .i64 k.h, .slice B l d]] w fun e w' => e = .returned (.bool true) ∧ Below w.heap.size w w' := by
  have HA := Lib.hid (fun A c W => igreat_to m.w m.h n (decide_eq_false h1) A c W)
  have HB := Lib.hid (fun A c W => igreat_to k.w k.h l (decide_eq_false h2) A c W)
  have hlm : m.c.length = n := by simpa using hr.len
  have hlk : k.c.length = l := by simpa using hk.len
  have hm42 : m.c.length ≤ 4200 := by omega
  have hle : ∀ (W : World) (A : Option Addr) (n : Nat), Rd W A n (m.c.map (Value.int .i64)) → n ≤ 1048576 := fun W A n h => by
    have e : m.c.length = n := by simpa using h.len
    omega
  have HTI := Lib.hid (fun W (h : Rd W A n (m.c.map (Value.int .i64))) => twinI_any m.w m.h A n c m.c W h (by omega))
  have HC1 := Lib.hid (fun A n c W h => counts_any m A n c W h (hle W A n h))
  have HC2 := Lib.hid (fun A n c W h => rcounts_any m A n c W h (hle W A n h))
  have HT1 := Lib.hid (fun A n c W h => turnI_any m A n c W h (hle W A n h))
  have HT2 := Lib.hid (fun A n c W h => rturnI_any m A n c W h (hle W A n h))
  have HX1 := Lib.hid (fun A n c W h hc => itext_any m A n c W h (hle W A n h) hc)
  have HX2 := Lib.hid (fun A n c W h => ritext_any m A n c W h (hle W A n h))
  have HK1 := Lib.hid (fun A n c W h => checkI_any m A n c W h (hle W A n h))
  have HK2 := Lib.hid (fun A n c W h => rcheckI_any m A n c W h (hle W A n h))
  have HS1 := Lib.hid (fun A n c A2 n2 c2 W h h2 => isame_any m k A A2 n c n2 c2 W h h2 (hle W A n h))
  have HS2 := Lib.hid (fun A n c A2 n2 c2 W h h2 => rsameI_any m k A A2 n c n2 c2 W h h2 (hle W A n h))
  have HQm := Lib.hid (fun A A2 n c n2 c2 W h h2 => psameI_self m hm42 A A2 n c n2 c2 W h h2)
  have HQt := Lib.hid (fun A A2 n c n2 c2 W h h2 => psameI_self (turnI m).1 (turn_len m) A A2 n c n2 c2 W h h2)
  have hcl := counts_len m
  have HQl := Lib.hid (fun A A' n n' c c' W h h' => lsame_any (countsI m).1 A A' n n' c c' W h h' (short_rd hcl h))
  clear hlm hlk hm42 hle hcl h1 h2
  generalize countsI m = cr at *
  generalize turnI m = tr at *
  generalize textI m = xr at *
  generalize chkI m = kr at *
  generalize sameI m k = sr at *
  obtain ⟨cl, ce⟩ := cr
  obtain ⟨⟨tw, th, tl⟩, te⟩ := tr
  obtain ⟨xl, xe⟩ := xr
  simp only at HQl HQt
  have S0 := ((((St.start w).addRd hr).addRd hk).box #[.int .i64 m.w, .int .i64 m.h, .slice A n c] 29).box #[.int .i64 k.w, .int .i64 k.h, .slice B l d] 29
  simp only [size_alloc1, List.nil_append, List.cons_append] at S0
  clear hr hk
  go_enter Try.func7, Try.ntmps7
  obtain ⟨ca0, ca1, ca2⟩ := (S0.blk 2 rfl).cell3
  go_wp2_with fail
  refine (HA.out _ _ _).mono ?_
  rintro e w1 ⟨rfl, hb1⟩
  have S1 := S0.keep hb1
  clear ca0 ca1 ca2
  obtain ⟨ca0, ca1, ca2⟩ := (S1.blk 3 rfl).cell3
  go_wp2_with fail
  refine (HB.out _ _ _).mono ?_
  rintro e w2 ⟨rfl, hb2⟩
  have S2 := S1.keep hb2
  clear ca0 ca1 ca2 S1
  obtain ⟨ca0, ca1, ca2⟩ := (S2.blk 2 rfl).cell3
  go_wp2_with fail
  refine (HTI.out _ (S2.rd 0 rfl)).mono ?_
  rintro e w3 ⟨A3, n3, cc3, rfl, hown3, hb3⟩
  try simp only at hown3 ⊢
  have hc3 := own_le hown3
  have S3 := ((S2.keep hb3).addRd (rd_of_own hown3)).box #[.int .i64 m.w, .int .i64 m.h, .slice A3 n3 cc3] 29
  simp only [List.nil_append, List.cons_append] at S3
  clear ca0 ca1 ca2 S2 hown3
  obtain ⟨ca0, ca1, ca2⟩ := (S3.blk 5 rfl).cell3
  go_wp2_with fail
  refine (HC1.out _ _ _ _ (S3.rd 4 rfl)).mono ?_
  rintro e w4 ⟨A4, n4, cc4, rfl, hown4, hb4⟩
  try simp only at hown4 ⊢
  have S4 := (S3.keep hb4).addRd (rd_of_own hown4)
  simp only [List.nil_append, List.cons_append] at S4
  clear ca0 ca1 ca2 S3 hown4
  obtain ⟨ca0, ca1, ca2⟩ := (S4.blk 2 rfl).cell3
  go_wp2_with fail
  refine (HC2.out _ _ _ _ (S4.rd 0 rfl)).mono ?_
  rintro e w5 ⟨A5, n5, cc5, rfl, hown5, hb5⟩
  try simp only at hown5 ⊢
  have S5 := (S4.keep hb5).addRd (rd_of_own hown5)
  simp only [List.nil_append, List.cons_append] at S5
  clear ca0 ca1 ca2 S4 hown5
  obtain ⟨ca0, ca1, ca2⟩ := (S5.blk 5 rfl).cell3
  go_wp2_with fail
  refine (HT1.out _ _ _ _ (S5.rd 4 rfl)).mono ?_
  rintro e w6 ⟨A6, n6, cc6, rfl, hown6, hb6⟩
  try simp only at hown6 ⊢
  have hc6 := own_le hown6
  have S6 := ((S5.keep hb6).addRd (rd_of_own hown6)).box #[.int .i64 tw, .int .i64 th, .slice A6 n6 cc6] 29
  simp only [List.nil_append, List.cons_append] at S6
  clear ca0 ca1 ca2 S5 hown6
  obtain ⟨ca0, ca1, ca2⟩ := (S6.blk 2 rfl).cell3
  go_wp2_with fail
  refine (HT2.out _ _ _ _ (S6.rd 0 rfl)).mono ?_
  rintro e w7 ⟨A7, n7, cc7, rfl, hown7, hb7⟩
  try simp only at hown7 ⊢
  have hc7 := own_le hown7
  have S7 := ((S6.keep hb7).addRd (rd_of_own hown7)).box #[.int .i64 tw, .int .i64 th, .slice A7 n7 cc7] 29
  simp only [List.nil_append, List.cons_append] at S7
  clear ca0 ca1 ca2 S6 hown7
  obtain ⟨ca0, ca1, ca2⟩ := (S7.blk 5 rfl).cell3
  go_wp2_with fail
  refine (HX1.out _ _ _ _ (S7.rd 4 rfl) hc3).mono ?_
  rintro e w8 ⟨rfl, hb8⟩
  have S8 := S7.keep hb8
  clear ca0 ca1 ca2 S7
  obtain ⟨ca0, ca1, ca2⟩ := (S8.blk 2 rfl).cell3
  go_wp2_with fail
  refine (HX2.out _ _ _ _ (S8.rd 0 rfl)).mono ?_
  rintro e w9 ⟨rfl, hb9⟩
  have S9 := S8.keep hb9
  clear ca0 ca1 ca2 S8
  go_wp2_with fail
  have SD := S9.drew
  clear S9
  refine wp_region_held_drew (S := (fun w' => (w'.cell? ⟨w.heap.size, 0, none⟩ = some (.int .i64 m.w) ∧ w'.cell? ⟨w.heap.size, 1, none⟩ = some (.int .i64 m.h) ∧ w'.cell? ⟨w.heap.size, 2, none⟩ = some (.slice A n c)) ∧ (w'.cell? ⟨(w.heap.size + 1), 0, none⟩ = some (.int .i64 k.w) ∧ w'.cell? ⟨(w.heap.size + 1), 1, none⟩ = some (.int .i64 k.h) ∧ w'.cell? ⟨(w.heap.size + 1), 2, none⟩ = some (.slice B l d)) ∧ (w'.cell? ⟨w3.heap.size, 0, none⟩ = some (.int .i64 m.w) ∧ w'.cell? ⟨w3.heap.size, 1, none⟩ = some (.int .i64 m.h) ∧ w'.cell? ⟨w3.heap.size, 2, none⟩ = some (.slice A3 n3 cc3)) ∧ (w'.cell? ⟨w6.heap.size, 0, none⟩ = some (.int .i64 tw) ∧ w'.cell? ⟨w6.heap.size, 1, none⟩ = some (.int .i64 th) ∧ w'.cell? ⟨w6.heap.size, 2, none⟩ = some (.slice A6 n6 cc6)) ∧ (w'.cell? ⟨w7.heap.size, 0, none⟩ = some (.int .i64 tw) ∧ w'.cell? ⟨w7.heap.size, 1, none⟩ = some (.int .i64 th) ∧ w'.cell? ⟨w7.heap.size, 2, none⟩ = some (.slice A7 n7 cc7)))) (by kernel_rfl) ?_ (fun hHeld => ?_)
  · (try dsimp only); exact ⟨(SD.blk 2 rfl).cell3, (SD.blk 3 rfl).cell3, (SD.blk 5 rfl).cell3, (SD.blk 9 rfl).cell3, (SD.blk 11 rfl).cell3⟩
  refine man_take 0 56 (v := ?_) ⟨_, rfl, rfl⟩ (by kernel_rfl) (by kernel_rfl) (by kernel_rfl) (fun _ _ _ h => h) (by assumption) ?_ ?_
  rotate_left
  · intro oi ho; cases ho; refine ⟨by rfl, ?_⟩; intro w hSw; (try dsimp only at hSw); go_simp; try with_reducible rfl
  (try simp only [Act.put, List.setIfInBounds_toArray, List.set_cons_zero, List.set_cons_succ])
  refine man_take 2 58 (v := ?_) ⟨_, rfl, rfl⟩ (by kernel_rfl) (by kernel_rfl) (by kernel_rfl) (fun _ _ _ h => h) (by assumption) ?_ ?_
  rotate_left
  · intro oi ho; cases ho; refine ⟨by rfl, ?_⟩; intro w hSw; (try dsimp only at hSw); go_simp; try with_reducible rfl
  (try simp only [Act.put, List.setIfInBounds_toArray, List.set_cons_zero, List.set_cons_succ])
  refine man_run 1 rfl (by kernel_rfl) (fun K hK => ?_)
  go_simp
  refine (HK1.out _ _ _ _ (SD.rd 4 rfl)).mono ?_
  rintro e w31 ⟨rfl, hb31⟩
  replace SD := SD.keep hb31
  go_wp2_with fail
  refine hK.out _ _ ?_ (fun hHeld => ?_)
  · (try dsimp only); exact ⟨(SD.blk 2 rfl).cell3, (SD.blk 3 rfl).cell3, (SD.blk 5 rfl).cell3, (SD.blk 9 rfl).cell3, (SD.blk 11 rfl).cell3⟩
  clear hK K
  (try simp only [Act.put, List.setIfInBounds_toArray, List.set_cons_zero, List.set_cons_succ])
  refine man_run 3 rfl (by kernel_rfl) (fun K hK => ?_)
  go_simp
  refine (HK2.out _ _ _ _ (SD.rd 0 rfl)).mono ?_
  rintro e w32 ⟨rfl, hb32⟩
  replace SD := SD.keep hb32
  go_wp2_with fail
  refine hK.out _ _ ?_ (fun hHeld => ?_)
  · (try dsimp only); exact ⟨(SD.blk 2 rfl).cell3, (SD.blk 3 rfl).cell3, (SD.blk 5 rfl).cell3, (SD.blk 9 rfl).cell3, (SD.blk 11 rfl).cell3⟩
  clear hK K
  (try simp only [Act.put, List.setIfInBounds_toArray, List.set_cons_zero, List.set_cons_succ])
  refine man_take 4 60 (v := ?_) ⟨_, rfl, rfl⟩ (by kernel_rfl) (by kernel_rfl) (by kernel_rfl) (fun _ _ _ h => h) (by assumption) ?_ ?_
  rotate_left
  · intro oi ho; cases ho; refine ⟨by rfl, ?_⟩; intro w hSw; (try dsimp only at hSw); go_simp; try with_reducible rfl
  (try simp only [Act.put, List.setIfInBounds_toArray, List.set_cons_zero, List.set_cons_succ])
  refine man_take 5 61 (v := ?_) ⟨_, rfl, rfl⟩ (by kernel_rfl) (by kernel_rfl) (by kernel_rfl) (fun _ _ _ h => h) (by assumption) ?_ ?_
  rotate_left
  · intro oi ho; cases ho; refine ⟨by rfl, ?_⟩; intro w hSw; (try dsimp only at hSw); go_simp; try with_reducible rfl
  (try simp only [Act.put, List.setIfInBounds_toArray, List.set_cons_zero, List.set_cons_succ])
  refine man_take 6 62 (v := ?_) ⟨_, rfl, rfl⟩ (by kernel_rfl) (by kernel_rfl) (by kernel_rfl) (fun _ _ _ h => h) (by assumption) ?_ ?_
  rotate_left
  · intro oi ho; cases ho; refine ⟨by rfl, ?_⟩; intro w hSw; (try dsimp only at hSw); go_simp; try with_reducible rfl
  (try simp only [Act.put, List.setIfInBounds_toArray, List.set_cons_zero, List.set_cons_succ])
  refine man_take 7 63 (v := ?_) ⟨_, rfl, rfl⟩ (by kernel_rfl) (by kernel_rfl) (by kernel_rfl) (fun _ _ _ h => h) (by assumption) ?_ ?_
  rotate_left
  · intro oi ho; cases ho; refine ⟨by rfl, ?_⟩; intro w hSw; (try dsimp only at hSw); go_simp; try with_reducible rfl
  (try simp only [Act.put, List.setIfInBounds_toArray, List.set_cons_zero, List.set_cons_succ])
  refine man_run 8 rfl (by kernel_rfl) (fun K hK => ?_)
  go_simp
  refine (HQl.out _ _ _ _ _ _ _ (SD.rd 6 rfl) (SD.rd 7 rfl)).mono ?_
  rintro e w33 ⟨rfl, hb33⟩
  replace SD := SD.keep hb33
  go_wp2_with fail
  refine hK.out _ _ ?_ (fun hHeld => ?_)
  · (try dsimp only); exact ⟨(SD.blk 2 rfl).cell3, (SD.blk 3 rfl).cell3, (SD.blk 5 rfl).cell3, (SD.blk 9 rfl).cell3, (SD.blk 11 rfl).cell3⟩
  clear hK K
  (try simp only [Act.put, List.setIfInBounds_toArray, List.set_cons_zero, List.set_cons_succ])
  refine man_take 9 65 (v := ?_) ⟨_, rfl, rfl⟩ (by kernel_rfl) (by kernel_rfl) (by kernel_rfl) (fun _ _ _ h => h) (by assumption) ?_ ?_
  rotate_left
  · intro oi ho; cases ho; refine ⟨by rfl, ?_⟩; intro w hSw; (try dsimp only at hSw); go_simp; try with_reducible rfl
  (try simp only [Act.put, List.setIfInBounds_toArray, List.set_cons_zero, List.set_cons_succ])
  refine man_take 10 66 (v := ?_) ⟨_, rfl, rfl⟩ (by kernel_rfl) (by kernel_rfl) (by kernel_rfl) (fun _ _ _ h => h) (by assumption) ?_ ?_
  rotate_left
  · intro oi ho; cases ho; refine ⟨by rfl, ?_⟩; intro w hSw; (try dsimp only at hSw); go_simp; try with_reducible rfl
  (try simp only [Act.put, List.setIfInBounds_toArray, List.set_cons_zero, List.set_cons_succ])
  refine man_take 11 67 (v := ?_) ⟨_, rfl, rfl⟩ (by kernel_rfl) (by kernel_rfl) (by kernel_rfl) (fun _ _ _ h => h) (by assumption) ?_ ?_
  rotate_left
  · intro oi ho; cases ho; refine ⟨by rfl, ?_⟩; intro w hSw; (try dsimp only at hSw); go_simp; try with_reducible rfl
  (try simp only [Act.put, List.setIfInBounds_toArray, List.set_cons_zero, List.set_cons_succ])
  refine man_take 12 68 (v := ?_) ⟨_, rfl, rfl⟩ (by kernel_rfl) (by kernel_rfl) (by kernel_rfl) (fun _ _ _ h => h) (by assumption) ?_ ?_
  rotate_left
  · intro oi ho; cases ho; refine ⟨by rfl, ?_⟩; intro w hSw; (try dsimp only at hSw); go_simp; try with_reducible rfl
  (try simp only [Act.put, List.setIfInBounds_toArray, List.set_cons_zero, List.set_cons_succ])
  refine man_take 13 69 (v := ?_) ⟨_, rfl, rfl⟩ (by kernel_rfl) (by kernel_rfl) (by kernel_rfl) (fun _ _ _ h => h) (by assumption) ?_ ?_
  rotate_left
  · intro oi ho; cases ho; refine ⟨by rfl, ?_⟩; intro w hSw; (try dsimp only at hSw); go_simp; try with_reducible rfl
  (try simp only [Act.put, List.setIfInBounds_toArray, List.set_cons_zero, List.set_cons_succ])
  refine man_take 14 70 (v := ?_) ⟨_, rfl, rfl⟩ (by kernel_rfl) (by kernel_rfl) (by kernel_rfl) (fun _ _ _ h => h) (by assumption) ?_ ?_
  rotate_left
  · intro oi ho; cases ho; refine ⟨by rfl, ?_⟩; intro w hSw; (try dsimp only at hSw); go_simp; try with_reducible rfl
  (try simp only [Act.put, List.setIfInBounds_toArray, List.set_cons_zero, List.set_cons_succ])
  refine man_take 15 71 (v := ?_) ⟨_, rfl, rfl⟩ (by kernel_rfl) (by kernel_rfl) (by kernel_rfl) (fun _ _ _ h => h) (by assumption) ?_ ?_
  rotate_left
  · intro oi ho; cases ho; refine ⟨by rfl, ?_⟩; intro w hSw; (try dsimp only at hSw); go_simp; try with_reducible rfl
  (try simp only [Act.put, List.setIfInBounds_toArray, List.set_cons_zero, List.set_cons_succ])
  refine man_take 16 72 (v := ?_) ⟨_, rfl, rfl⟩ (by kernel_rfl) (by kernel_rfl) (by kernel_rfl) (fun _ _ _ h => h) (by assumption) ?_ ?_
  rotate_left
  · intro oi ho; cases ho; refine ⟨by rfl, ?_⟩; intro w hSw; (try dsimp only at hSw); go_simp; try with_reducible rfl
  (try simp only [Act.put, List.setIfInBounds_toArray, List.set_cons_zero, List.set_cons_succ])
  refine man_take 17 73 (v := ?_) ⟨_, rfl, rfl⟩ (by kernel_rfl) (by kernel_rfl) (by kernel_rfl) (fun _ _ _ h => h) (by assumption) ?_ ?_
  rotate_left
  · intro oi ho; cases ho; refine ⟨by rfl, ?_⟩; intro w hSw; (try dsimp only at hSw); go_simp; try with_reducible rfl
  (try simp only [Act.put, List.setIfInBounds_toArray, List.set_cons_zero, List.set_cons_succ])
  refine man_run 18 rfl (by kernel_rfl) (fun K hK => ?_)
  go_simp
  refine (HQt.out _ _ _ _ _ _ _ (SD.rd 8 rfl) (SD.rd 10 rfl)).mono ?_
  rintro e w34 ⟨rfl, hb34⟩
  replace SD := SD.keep hb34
  go_wp2_with fail
  refine hK.out _ _ ?_ (fun hHeld => ?_)
  · (try dsimp only); exact ⟨(SD.blk 2 rfl).cell3, (SD.blk 3 rfl).cell3, (SD.blk 5 rfl).cell3, (SD.blk 9 rfl).cell3, (SD.blk 11 rfl).cell3⟩
  clear hK K
  (try simp only [Act.put, List.setIfInBounds_toArray, List.set_cons_zero, List.set_cons_succ])
  refine man_take 19 75 (v := ?_) ⟨_, rfl, rfl⟩ (by kernel_rfl) (by kernel_rfl) (by kernel_rfl) (fun _ _ _ h => h) (by assumption) ?_ ?_
  rotate_left
  · intro oi ho; cases ho; refine ⟨by rfl, ?_⟩; intro w hSw; (try dsimp only at hSw); go_simp; try with_reducible rfl
  (try simp only [Act.put, List.setIfInBounds_toArray, List.set_cons_zero, List.set_cons_succ])
  refine man_take 20 76 (v := ?_) ⟨_, rfl, rfl⟩ (by kernel_rfl) (by kernel_rfl) (by kernel_rfl) (fun _ _ _ h => h) (by assumption) ?_ ?_
  rotate_left
  · intro oi ho; cases ho; refine ⟨by rfl, ?_⟩; intro w hSw; (try dsimp only at hSw); go_simp; try with_reducible rfl
  (try simp only [Act.put, List.setIfInBounds_toArray, List.set_cons_zero, List.set_cons_succ])
  refine man_take 21 77 (v := ?_) ⟨_, rfl, rfl⟩ (by kernel_rfl) (by kernel_rfl) (by kernel_rfl) (fun _ _ _ h => h) (by assumption) ?_ ?_
  rotate_left
  · intro oi ho; cases ho; refine ⟨by rfl, ?_⟩; intro w hSw; (try dsimp only at hSw); go_simp; try with_reducible rfl
  (try simp only [Act.put, List.setIfInBounds_toArray, List.set_cons_zero, List.set_cons_succ])
  refine man_take 22 78 (v := ?_) ⟨_, rfl, rfl⟩ (by kernel_rfl) (by kernel_rfl) (by kernel_rfl) (fun _ _ _ h => h) (by assumption) ?_ ?_
  rotate_left
  · intro oi ho; cases ho; refine ⟨by rfl, ?_⟩; intro w hSw; (try dsimp only at hSw); go_simp; try with_reducible rfl
  (try simp only [Act.put, List.setIfInBounds_toArray, List.set_cons_zero, List.set_cons_succ])
  refine man_take 23 79 (v := ?_) ⟨_, rfl, rfl⟩ (by kernel_rfl) (by kernel_rfl) (by kernel_rfl) (fun _ _ _ h => h) (by assumption) ?_ ?_
  rotate_left
  · intro oi ho; cases ho; refine ⟨by rfl, ?_⟩; intro w hSw; (try dsimp only at hSw); go_simp; try with_reducible rfl
  (try simp only [Act.put, List.setIfInBounds_toArray, List.set_cons_zero, List.set_cons_succ])
  refine man_take 24 80 (v := ?_) ⟨_, rfl, rfl⟩ (by kernel_rfl) (by kernel_rfl) (by kernel_rfl) (fun _ _ _ h => h) (by assumption) ?_ ?_
  rotate_left
  · intro oi ho; cases ho; refine ⟨by rfl, ?_⟩; intro w hSw; (try dsimp only at hSw); go_simp; try with_reducible rfl
  (try simp only [Act.put, List.setIfInBounds_toArray, List.set_cons_zero, List.set_cons_succ])
  refine man_take 25 81 (v := ?_) ⟨_, rfl, rfl⟩ (by kernel_rfl) (by kernel_rfl) (by kernel_rfl) (fun _ _ _ h => h) (by assumption) ?_ ?_
  rotate_left
  · intro oi ho; cases ho; refine ⟨by rfl, ?_⟩; intro w hSw; (try dsimp only at hSw); go_simp; try with_reducible rfl
  (try simp only [Act.put, List.setIfInBounds_toArray, List.set_cons_zero, List.set_cons_succ])
  refine man_take 26 82 (v := ?_) ⟨_, rfl, rfl⟩ (by kernel_rfl) (by kernel_rfl) (by kernel_rfl) (fun _ _ _ h => h) (by assumption) ?_ ?_
  rotate_left
  · intro oi ho; cases ho; refine ⟨by rfl, ?_⟩; intro w hSw; (try dsimp only at hSw); go_simp; try with_reducible rfl
  (try simp only [Act.put, List.setIfInBounds_toArray, List.set_cons_zero, List.set_cons_succ])
  refine man_take 27 83 (v := ?_) ⟨_, rfl, rfl⟩ (by kernel_rfl) (by kernel_rfl) (by kernel_rfl) (fun _ _ _ h => h) (by assumption) ?_ ?_
  rotate_left
  · intro oi ho; cases ho; refine ⟨by rfl, ?_⟩; intro w hSw; (try dsimp only at hSw); go_simp; try with_reducible rfl
  (try simp only [Act.put, List.setIfInBounds_toArray, List.set_cons_zero, List.set_cons_succ])
  refine man_take 28 84 (v := ?_) ⟨_, rfl, rfl⟩ (by kernel_rfl) (by kernel_rfl) (by kernel_rfl) (fun _ _ _ h => h) (by assumption) ?_ ?_
  rotate_left
  · intro oi ho; cases ho; refine ⟨by rfl, ?_⟩; intro w hSw; (try dsimp only at hSw); go_simp; try with_reducible rfl
  (try simp only [Act.put, List.setIfInBounds_toArray, List.set_cons_zero, List.set_cons_succ])
  refine man_take 29 85 (v := ?_) ⟨_, rfl, rfl⟩ (by kernel_rfl) (by kernel_rfl) (by kernel_rfl) (fun _ _ _ h => h) (by assumption) ?_ ?_
  rotate_left
  · intro oi ho; cases ho; refine ⟨by rfl, ?_⟩; intro w hSw; (try dsimp only at hSw); go_simp; try with_reducible rfl
  (try simp only [Act.put, List.setIfInBounds_toArray, List.set_cons_zero, List.set_cons_succ])
  refine man_take 30 86 (v := ?_) ⟨_, rfl, rfl⟩ (by kernel_rfl) (by kernel_rfl) (by kernel_rfl) (fun _ _ _ h => h) (by assumption) ?_ ?_
  rotate_left
  · intro oi ho; cases ho; refine ⟨by rfl, ?_⟩; intro w hSw; (try dsimp only at hSw); go_simp; try with_reducible rfl
  (try simp only [Act.put, List.setIfInBounds_toArray, List.set_cons_zero, List.set_cons_succ])
  refine man_take 31 87 (v := ?_) ⟨_, rfl, rfl⟩ (by kernel_rfl) (by kernel_rfl) (by kernel_rfl) (fun _ _ _ h => h) (by assumption) ?_ ?_
  rotate_left
  · intro oi ho; cases ho; refine ⟨by rfl, ?_⟩; intro w hSw; (try dsimp only at hSw); go_simp; try with_reducible rfl
  (try simp only [Act.put, List.setIfInBounds_toArray, List.set_cons_zero, List.set_cons_succ])
  refine man_take 32 88 (v := ?_) ⟨_, rfl, rfl⟩ (by kernel_rfl) (by kernel_rfl) (by kernel_rfl) (fun _ _ _ h => h) (by assumption) ?_ ?_
  rotate_left
  · intro oi ho; cases ho; refine ⟨by rfl, ?_⟩; intro w hSw; (try dsimp only at hSw); go_simp; try with_reducible rfl
  (try simp only [Act.put, List.setIfInBounds_toArray, List.set_cons_zero, List.set_cons_succ])
  refine man_take 33 89 (v := ?_) ⟨_, rfl, rfl⟩ (by kernel_rfl) (by kernel_rfl) (by kernel_rfl) (fun _ _ _ h => h) (by assumption) ?_ ?_
  rotate_left
  · intro oi ho; cases ho; refine ⟨by rfl, ?_⟩; intro w hSw; (try dsimp only at hSw); go_simp; try with_reducible rfl
  (try simp only [Act.put, List.setIfInBounds_toArray, List.set_cons_zero, List.set_cons_succ])
  refine man_take 34 90 (v := ?_) ⟨_, rfl, rfl⟩ (by kernel_rfl) (by kernel_rfl) (by kernel_rfl) (fun _ _ _ h => h) (by assumption) ?_ ?_
  rotate_left
  · intro oi ho; cases ho; refine ⟨by rfl, ?_⟩; intro w hSw; (try dsimp only at hSw); go_simp; try with_reducible rfl
  (try simp only [Act.put, List.setIfInBounds_toArray, List.set_cons_zero, List.set_cons_succ])
  refine man_take 35 91 (v := ?_) ⟨_, rfl, rfl⟩ (by kernel_rfl) (by kernel_rfl) (by kernel_rfl) (fun _ _ _ h => h) (by assumption) ?_ ?_
  rotate_left
  · intro oi ho; cases ho; refine ⟨by rfl, ?_⟩; intro w hSw; (try dsimp only at hSw); go_simp; try with_reducible rfl
  (try simp only [Act.put, List.setIfInBounds_toArray, List.set_cons_zero, List.set_cons_succ])
  refine man_take 36 92 (v := ?_) ⟨_, rfl, rfl⟩ (by kernel_rfl) (by kernel_rfl) (by kernel_rfl) (fun _ _ _ h => h) (by assumption) ?_ ?_
  rotate_left
  · intro oi ho; cases ho; refine ⟨by rfl, ?_⟩; intro w hSw; (try dsimp only at hSw); go_simp; try with_reducible rfl
  (try simp only [Act.put, List.setIfInBounds_toArray, List.set_cons_zero, List.set_cons_succ])
  refine man_take 37 93 (v := ?_) ⟨_, rfl, rfl⟩ (by kernel_rfl) (by kernel_rfl) (by kernel_rfl) (fun _ _ _ h => h) (by assumption) ?_ ?_
  rotate_left
  · intro oi ho; cases ho; refine ⟨by rfl, ?_⟩; intro w hSw; (try dsimp only at hSw); go_simp; try with_reducible rfl
  (try simp only [Act.put, List.setIfInBounds_toArray, List.set_cons_zero, List.set_cons_succ])
  refine man_take 39 95 (v := ?_) ⟨_, rfl, rfl⟩ (by kernel_rfl) (by kernel_rfl) (by kernel_rfl) (fun _ _ _ h => h) (by assumption) ?_ ?_
  rotate_left
  · intro oi ho; cases ho; refine ⟨by rfl, ?_⟩; intro w hSw; (try dsimp only at hSw); go_simp; try with_reducible rfl
  (try simp only [Act.put, List.setIfInBounds_toArray, List.set_cons_zero, List.set_cons_succ])
  refine man_take 40 96 (v := ?_) ⟨_, rfl, rfl⟩ (by kernel_rfl) (by kernel_rfl) (by kernel_rfl) (fun _ _ _ h => h) (by assumption) ?_ ?_
  rotate_left
  · intro oi ho; cases ho; refine ⟨by rfl, ?_⟩; intro w hSw; (try dsimp only at hSw); go_simp; try with_reducible rfl
  (try simp only [Act.put, List.setIfInBounds_toArray, List.set_cons_zero, List.set_cons_succ])
  refine man_run 38 rfl (by kernel_rfl) (fun K hK => ?_)
  go_simp
  refine (HS1.out _ _ _ _ _ _ _ (SD.rd 4 rfl) (SD.rd 1 rfl)).mono ?_
  rintro e w35 ⟨rfl, hb35⟩
  replace SD := SD.keep hb35
  go_wp2_with fail
  refine hK.out _ _ ?_ (fun hHeld => ?_)
  · (try dsimp only); exact ⟨(SD.blk 2 rfl).cell3, (SD.blk 3 rfl).cell3, (SD.blk 5 rfl).cell3, (SD.blk 9 rfl).cell3, (SD.blk 11 rfl).cell3⟩
  clear hK K
  (try simp only [Act.put, List.setIfInBounds_toArray, List.set_cons_zero, List.set_cons_succ])
  refine man_run 41 rfl (by kernel_rfl) (fun K hK => ?_)
  go_simp
  refine (HS2.out _ _ _ _ _ _ _ (SD.rd 0 rfl) (SD.rd 1 rfl)).mono ?_
  rintro e w36 ⟨rfl, hb36⟩
  replace SD := SD.keep hb36
  go_wp2_with fail
  refine hK.out _ _ ?_ (fun hHeld => ?_)
  · (try dsimp only); exact ⟨(SD.blk 2 rfl).cell3, (SD.blk 3 rfl).cell3, (SD.blk 5 rfl).cell3, (SD.blk 9 rfl).cell3, (SD.blk 11 rfl).cell3⟩
  clear hK K
  (try simp only [Act.put, List.setIfInBounds_toArray, List.set_cons_zero, List.set_cons_succ])
  refine man_take 42 98 (v := ?_) ⟨_, rfl, rfl⟩ (by kernel_rfl) (by kernel_rfl) (by kernel_rfl) (fun _ _ _ h => h) (by assumption) ?_ ?_
  rotate_left
  · intro oi ho; cases ho; refine ⟨by rfl, ?_⟩; intro w hSw; (try dsimp only at hSw); go_simp; try with_reducible rfl
  (try simp only [Act.put, List.setIfInBounds_toArray, List.set_cons_zero, List.set_cons_succ])
  refine man_take 43 99 (v := ?_) ⟨_, rfl, rfl⟩ (by kernel_rfl) (by kernel_rfl) (by kernel_rfl) (fun _ _ _ h => h) (by assumption) ?_ ?_
  rotate_left
  · intro oi ho; cases ho; refine ⟨by rfl, ?_⟩; intro w hSw; (try dsimp only at hSw); go_simp; try with_reducible rfl
  (try simp only [Act.put, List.setIfInBounds_toArray, List.set_cons_zero, List.set_cons_succ])
  refine man_take 44 100 (v := ?_) ⟨_, rfl, rfl⟩ (by kernel_rfl) (by kernel_rfl) (by kernel_rfl) (fun _ _ _ h => h) (by assumption) ?_ ?_
  rotate_left
  · intro oi ho; cases ho; refine ⟨by rfl, ?_⟩; intro w hSw; (try dsimp only at hSw); go_simp; try with_reducible rfl
  (try simp only [Act.put, List.setIfInBounds_toArray, List.set_cons_zero, List.set_cons_succ])
  refine man_take 45 101 (v := ?_) ⟨_, rfl, rfl⟩ (by kernel_rfl) (by kernel_rfl) (by kernel_rfl) (fun _ _ _ h => h) (by assumption) ?_ ?_
  rotate_left
  · intro oi ho; cases ho; refine ⟨by rfl, ?_⟩; intro w hSw; (try dsimp only at hSw); go_simp; try with_reducible rfl
  (try simp only [Act.put, List.setIfInBounds_toArray, List.set_cons_zero, List.set_cons_succ])
  refine man_take 46 102 (v := ?_) ⟨_, rfl, rfl⟩ (by kernel_rfl) (by kernel_rfl) (by kernel_rfl) (fun _ _ _ h => h) (by assumption) ?_ ?_
  rotate_left
  · intro oi ho; cases ho; refine ⟨by rfl, ?_⟩; intro w hSw; (try dsimp only at hSw); go_simp; try with_reducible rfl
  (try simp only [Act.put, List.setIfInBounds_toArray, List.set_cons_zero, List.set_cons_succ])
  refine man_run 47 rfl (by kernel_rfl) (fun K hK => ?_)
  go_simp
  refine (HQm.out _ _ _ _ _ _ _ (SD.rd 4 rfl) (SD.rd 0 rfl)).mono ?_
  rintro e w37 ⟨rfl, hb37⟩
  replace SD := SD.keep hb37
  go_wp2_with fail
  refine hK.out _ _ ?_ (fun hHeld => ?_)
  · (try dsimp only); exact ⟨(SD.blk 2 rfl).cell3, (SD.blk 3 rfl).cell3, (SD.blk 5 rfl).cell3, (SD.blk 9 rfl).cell3, (SD.blk 11 rfl).cell3⟩
  clear hK K
  (try simp only [Act.put, List.setIfInBounds_toArray, List.set_cons_zero, List.set_cons_succ])
  refine man_take 48 104 (v := ?_) ⟨_, rfl, rfl⟩ (by kernel_rfl) (by kernel_rfl) (by kernel_rfl) (fun _ _ _ h => h) (by assumption) ?_ ?_
  rotate_left
  · intro oi ho; cases ho; refine ⟨by rfl, ?_⟩; intro w hSw; (try dsimp only at hSw); go_simp; try with_reducible rfl
  (try simp only [Act.put, List.setIfInBounds_toArray, List.set_cons_zero, List.set_cons_succ])
  refine man_take 49 4 (v := ?_) ⟨_, rfl, rfl⟩ (by kernel_rfl) (by kernel_rfl) (by kernel_rfl) (fun _ _ _ h => h) (by assumption) ?_ ?_
  rotate_left
  · intro oi ho; cases ho; refine ⟨by rfl, ?_⟩; intro w hSw; (try dsimp only at hSw); go_simp; try with_reducible rfl
  (try simp only [Act.put, List.setIfInBounds_toArray, List.set_cons_zero, List.set_cons_succ])
  refine wpAnyH_done (by kernel_rfl) ?_ _
  go_wp2_with fail
  go_ret
  exact ⟨by trivial, SD.below⟩

theorem pimages_walk (m k : Im) (A B : Option Addr) (n c l d : Nat) (w : World) (hr : Rd w A n (m.c.map (Value.int .i64))) (hk : Rd w B l (k.c.map (Value.int .i64))) :
    Calls Try.prog 7 #[.agg #[.int .i64 m.w, .int .i64 m.h, .slice A n c], .agg #[.int .i64 k.w, .int .i64 k.h, .slice B l d]] w fun e w' => e = .returned (.bool true) ∧ Below w.heap.size w w' := by
  by_cases h1 : 4200 < n
  · exact pimages_0 m k A B n c l d w hr hk h1
  by_cases h2 : 4200 < l
  · exact pimages_1 m k A B n c l d w hr hk h1 h2
  · exact pimages_2 m k A B n c l d w hr hk h1 h2
end Go.Proofs.Ytpfonniepinjnaa
