/- The law RepeatMoved, walked at valid grids; the other grid: yes. -/
import Derived.Test.YtkhochbkjhpfgaaDoorMvd6Hz
namespace Go.Proofs.YtkhochbkjhpfgaaDoor
open Go.RowKit

set_option maxHeartbeats 8000000 in
set_option maxRecDepth 100000 in
theorem moved6_yes (a b c : Nat) (bs : List Bool) (A0 : Option Addr) (dx dy : Int) (a' b' : Nat) (bs' : List Bool) (AO : Option Addr) (cO : Nat) (ex ey : Int) (w : World) (ha1 : 1 ≤ a) (hb1 : 1 ≤ b) (ha : a ≤ 64) (hb : b ≤ 64) (hn1 : b * a ≤ 100) (hc : b * a ≤ c)
    (hr : Rd w A0 (b * a) (bs.map Value.bool)) (hx1 : -1000000000 ≤ dx) (hx2 : dx ≤ 1000000000) (hy1 : -1000000000 ≤ dy) (hy2 : dy ≤ 1000000000) (ha1' : 1 ≤ a') (hb1' : 1 ≤ b') (ha' : a' ≤ 64) (hb' : b' ≤ 64) (hcO : b' * a' ≤ cO) (hrO : Rd w AO (b' * a') (bs'.map Value.bool)) (hn' : b' * a' ≤ 100) (hM : Meets a b bs a' b' bs' ex ey) :
    Calls Tryd.prog 6 #[.agg #[.int .i64 a, .int .i64 b, .slice A0 (b * a) c], .agg #[.int .i64 a', .int .i64 b', .slice AO (b' * a') cO], .int .i64 dx, .int .i64 dy] w fun e w' => e = .returned (.bool true) ∧ Below w.heap.size w w' := by
  have hl : bs.length = b * a := by simpa using hr.len
  have hck := chk_is ha1 hb1 ha hb hl
  have hL := lat_is (bs := bs) ha1 hb1
  have HV := Lib.hid (fun A c W => valid6_any ⟨a, b, bs⟩ A (b * a) c W hl)
  have hv : valid6B ⟨a, b, bs⟩ = true := by unfold valid6B; rw [decide_eq_true_eq]; exact ⟨by show bs.length ≤ 100; omega, hck⟩
  rw [hv] at HV
  have hMs := shift_meets (a := a) (b := b) (bs := bs) ha1 hb1 dx dy
  have HSh := Lib.hid (fun A n c W h => shift_d ⟨a, b, bs⟩ dx dy A n c W (shift_ok hck dx dy) h)
  have hls : (shiL1 a b bs dx dy).length = b * a := by unfold shiL1; rw [Pl.tab_length]
  generalize shiL1 a b bs dx dy = L at *
  have hckS := chk_is ha1 hb1 ha hb hls
  have HVs := Lib.hid (fun A c W => valid6_any ⟨a, b, L⟩ A (b * a) c W hls)
  have hvs : valid6B ⟨a, b, L⟩ = true := by unfold valid6B; rw [decide_eq_true_eq]; exact ⟨by show L.length ≤ 100; omega, hckS⟩
  rw [hvs] at HVs
  obtain ⟨lA, lB, lC⟩ := hMs.lat ha1 hb1 ha1 hb1
  have hLs := lat_is (bs := L) ha1 hb1
  rw [← lA, ← lB, ← lC] at hLs
  have HOf := Lib.hid (fun A n c W h hc => of_d hck rfl rfl rfl A n c W h hc)
  have HOs := Lib.hid (fun A n c W h hc => of_d hckS lA.symm lB.symm lC.symm A n c W h hc)
  have HFs := Lib.hid (fun A A' n c n' c' W h h' hc hc' => off_d hck hckS ha1 hb1 hMs A A' n c n' c' W h h' hc hc')
  have HWi := Lib.hid (fun x y h => off_within (a := a) (b := b) (bs := bs) ha1 hb1 hLs (x := x) (y := y) h)
  have HMv := Lib.hid (fun c c' A A' px py W h h' (k1 : px ≤ 64) (k2 : py ≤ 64) (hi : IsOff a b bs a b L px py) => moves6_any a b c a b c' bs L A A' px py W ha1 hb1 ha hb ha1 hb1 ha hb h h' k1 k2 hi.1)
  have q1 := hL.a1
  have q2 := hL.a2
  have q3 := hL.b1
  have q4 := hL.c1
  have q5 := hL.c2
  have hCL : chkL ((latA a b bs : Nat) : Int) ((latB a b bs : Nat) : Int) ((latC a b bs : Nat) : Int) = 0 := chkL_ok (by omega) (by omega) (by omega) (by omega) (by omega) (by omega)
  have HIn := Lib.hid (fun (x y : Nat) (hx : x ≤ 64) (hy : y ≤ 64) (hi : IsOff a b bs a b L x y) X Y (hX : X = (x : Int) - dx) (hY : Y = (y : Int) - dy) W => in_to hCL ((lat_inV ha1 hb1 hLs ((x : Int) - dx) ((y : Int) - dy)).symm.trans (meets_two ha1 hb1 hi.1 hMs)) X Y hX hY (by omega) (by omega) W)
  have hl' : bs'.length = b' * a' := by simpa using hrO.len
  have hck' := chk_is ha1' hb1' ha' hb' hl'
  have HVo := Lib.hid (fun A c W => valid6_any ⟨a', b', bs'⟩ A (b' * a') c W hl')
  have hvo : valid6B ⟨a', b', bs'⟩ = true := by unfold valid6B; rw [decide_eq_true_eq]; exact ⟨by show bs'.length ≤ 100; omega, hck'⟩
  rw [hvo] at HVo
  obtain ⟨mA, mB, mC⟩ := hM.lat ha1 hb1 ha1' hb1'
  have hLo := lat_is (bs := bs') ha1' hb1'
  rw [← mA, ← mB, ← mC] at hLo
  have HOo := Lib.hid (fun A n c W h hc => of_d hck' mA.symm mB.symm mC.symm A n c W h hc)
  have HFo := Lib.hid (fun A A' n c n' c' W h h' hc hc' => off_d hck hck' ha1' hb1' hM A A' n c n' c' W h h' hc hc')
  have HFb := Lib.hid (fun A A' n c n' c' W h h' hc hc' => off_d hck' hck ha1 hb1 hM.back A A' n c n' c' W h h' hc hc')
  have HWo := Lib.hid (fun x y h => off_within (a := a) (b := b) (bs := bs) ha1' hb1' hLo (x := x) (y := y) h)
  have HMo := Lib.hid (fun c c' A A' px py W h h' (k1 : px ≤ 64) (k2 : py ≤ 64) (hi : IsOff a b bs a' b' bs' px py) => moves6_any a b c a' b' c' bs bs' A A' px py W ha1 hb1 ha hb ha1' hb1' ha' hb' h h' k1 k2 hi.1)
  have hT2 : a ≤ 32 → tileG ⟨a, b, bs⟩ 2 1 = (⟨((2 * a : Nat) : Int), ((1 * b : Nat) : Int), twoL a b bs⟩, 0) := fun h => tile_two hck ha1 hb1 h hb
  have hT4 : ¬ a ≤ 32 → tileG ⟨a, b, bs⟩ 2 1 = (Gd.zero, 4) := fun h => tile_big hck (by omega)
  have hl2 : (twoL a b bs).length = (1 * b) * (2 * a) := by unfold twoL; rw [Pl.tab_length]
  have hM2 := two_meets (a := a) (b := b) (bs := bs) ha1 hb1
  obtain ⟨tA, tB, tC⟩ := hM2.lat ha1 hb1 (by omega) (by omega)
  have HO2 := Lib.hid (fun (h32 : a ≤ 32) A n c W h hc => of_d (chk_is (by omega) (by omega) (by omega) (by omega) hl2) tA.symm tB.symm tC.symm A n c W h hc)
  have HF2 := Lib.hid (fun (h32 : a ≤ 32) A A' n c n' c' W h h' hc hc' => off_z hck (chk_is (by omega) (by omega) (by omega) (by omega) hl2) (by omega) (by omega) hM2 (fun x y h => two_off (a := a) (b := b) (bs := bs) (x := x) (y := y) ha1 hb1 h) A A' n c n' c' W h h' hc hc')
  have HTi := Lib.hid (fun r A n c W h k => tile_to (r := r) ⟨a, b, bs⟩ 2 1 A n c W h k)
  have HT2 := Lib.hid hT2
  have HT4 := Lib.hid hT4
  have HLs := Lib.hid hls
  clear hT2 hT4 tA tB tC hM2 hCL hMs hLs hL hv hvs hck hckS lA lB lC hls hl
  generalize twoL a b bs = L2 at *
  generalize 2 * a = a2 at *
  generalize 1 * b = b2 at *
  generalize latA a b bs = A at *
  generalize latB a b bs = B at *
  generalize latC a b bs = C at *
  simp only at HV HVs HTi
  clear hvo hck' hl' mA mB mC hLo
  simp only at HVo
  have S0 := ((((St.start w).addRd hr).addRd hrO).box #[.int .i64 a, .int .i64 b, .slice A0 (b * a) c] 33).box #[.int .i64 a', .int .i64 b', .slice AO (b' * a') cO] 33
  simp only [size_alloc1, List.nil_append, List.cons_append] at S0
  clear hr hrO
  obtain ⟨c0, c1, c2⟩ := (S0.blk 2 rfl).cell3
  go_enter Tryd.func6, Tryd.ntmps6
  go_wp2_with fail
  refine (HV.out _ _ _).mono ?_
  rintro e w1 ⟨rfl, hb1'⟩
  have S1 := S0.keep hb1'
  clear S0 c0 c1 c2
  obtain ⟨c0, c1, c2⟩ := (S1.blk 2 rfl).cell3
  go_wp2_with fail
  refine (HSh.out _ _ _ _ (S1.rd 0 rfl)).mono ?_
  rintro e w2 ⟨A2, n2, cc2, rfl, hown2, hb2'⟩
  have hc2 := own_le hown2
  have S2 := ((S1.keep hb2').addRd (rd_of_own hown2)).box #[.int .i64 a, .int .i64 b, .slice A2 n2 cc2] 33
  simp only [List.nil_append, List.cons_append] at S2
  obtain rfl : n2 = b * a := by have h1 := (S2.rd 4 rfl).len; have h2 := HLs.out; simp at h1; omega
  clear S1 c0 c1 c2 hown2
  obtain ⟨c0, c1, c2⟩ := (S2.blk 2 rfl).cell3
  go_wp2_with fail
  refine (HOf.out _ _ _ _ (S2.rd 0 rfl) hc).mono ?_
  rintro e w3 ⟨rfl, hb3'⟩
  have S3 := (S2.keep hb3').box #[.int .i64 A, .int .i64 B, .int .i64 C] 23
  simp only [List.nil_append, List.cons_append] at S3
  clear S2 c0 c1 c2
  obtain ⟨f0, f1, f2⟩ := (S3.blk 5 rfl).cell3
  go_wp2_with fail
  refine (HOs.out _ _ _ _ (S3.rd 4 rfl) hc2).mono ?_
  rintro e w4 ⟨rfl, hb4'⟩
  have S4 := (S3.keep hb4').box #[.int .i64 A, .int .i64 B, .int .i64 C] 23
  simp only [List.nil_append, List.cons_append] at S4
  clear S3 f0 f1 f2
  obtain ⟨c0, c1, c2⟩ := (S4.blk 2 rfl).cell3
  obtain ⟨f0, f1, f2⟩ := (S4.blk 5 rfl).cell3
  go_wp2_with fail
  refine (HFs.out _ _ _ _ _ _ _ (S4.rd 0 rfl) (S4.rd 4 rfl) hc hc2).mono ?_
  rintro e w5 ⟨x, y, hi, rfl, hb5'⟩
  obtain ⟨hxA, hyC⟩ := HWi.out x y hi
  have S5 := (S4.keep hb5').box #[.int .i64 x, .int .i64 y] 48
  simp only [List.nil_append, List.cons_append] at S5
  clear S4 c0 c1 c2 f0 f1 f2
  have HII := Lib.hid (fun X Y hX hY W => HIn.out x y (by omega) (by omega) hi X Y hX hY W)
  have HMM := Lib.hid (fun c c' A A' W h h' => HMv.out c c' A A' x y W h h' (by omega) (by omega) hi)
  clear hi
  obtain ⟨f0, f1, f2⟩ := (S5.blk 5 rfl).cell3
  obtain ⟨l0, l1, l2⟩ := (S5.blk 6 rfl).cell3
  obtain ⟨m0, m1, m2⟩ := (S5.blk 7 rfl).cell3
  go_wp2_with fail
  refine (HVs.out _ _ _).mono ?_
  rintro e w6 ⟨rfl, hb6'⟩
  have S6 := S5.keep hb6'
  clear S5 f0 f1 f2 l0 l1 l2 m0 m1 m2
  obtain ⟨c0, c1, c2⟩ := (S6.blk 2 rfl).cell3
  obtain ⟨f0, f1, f2⟩ := (S6.blk 5 rfl).cell3
  obtain ⟨p0, p1⟩ := (S6.blk 8 rfl).cellP
  go_wp2_with fail
  refine (HMM.out _ _ _ _ _ (S6.rd 0 rfl) (S6.rd 4 rfl)).mono ?_
  rintro e w7 ⟨rfl, hb7'⟩
  have S7 := S6.keep hb7'
  clear S6 c0 c1 c2 f0 f1 f2 p0 p1
  obtain ⟨l0, l1, l2⟩ := (S7.blk 6 rfl).cell3
  obtain ⟨p0, p1⟩ := (S7.blk 8 rfl).cellP
  have k1 : IntKind.i64.wrap ((x : Int) - dx) = (x : Int) - dx := IntWalk.i64_in _ (by omega)
  have k2 : IntKind.i64.wrap ((y : Int) - dy) = (y : Int) - dy := IntWalk.i64_in _ (by omega)
  go_wp2_with fail
  refine (HII.out _ _ rfl rfl _).mono ?_
  rintro e w8 ⟨rfl, hb8'⟩
  have S8 := S7.keep hb8'
  clear S7 l0 l1 l2 p0 p1 k1 k2
  obtain ⟨c0, c1, c2⟩ := (S8.blk 2 rfl).cell3
  obtain ⟨l0, l1, l2⟩ := (S8.blk 6 rfl).cell3
  obtain ⟨p0, p1⟩ := (S8.blk 8 rfl).cellP
  go_wp2_with fail
  by_cases h32 : a ≤ 32
  · refine (HTi.out _ _ _ _ _ (HT2.out h32) (S8.rd 0 rfl)).mono ?_
    rintro e w9 ⟨A9, n9, cc9, rfl, hown9, hb9'⟩
    simp only at hown9 ⊢
    have hc9 := own_le hown9
    have S9 := ((S8.keep hb9').addRd (rd_of_own hown9)).box #[.int .i64 a2, .int .i64 b2, .slice A9 n9 cc9] 33
    simp only [List.nil_append, List.cons_append] at S9
    clear S8 c0 c1 c2 l0 l1 l2 p0 p1 hown9
    obtain ⟨f0, f1, f2⟩ := (S9.blk 10 rfl).cell3
    go_wp2_with fail
    refine (HO2.out h32 _ _ _ _ (S9.rd 9 rfl) hc9).mono ?_
    rintro e w10 ⟨rfl, hb10⟩
    have S10 := (S9.keep hb10).box #[.int .i64 A, .int .i64 B, .int .i64 C] 23
    simp only [List.nil_append, List.cons_append] at S10
    clear S9 f0 f1 f2
    obtain ⟨c0, c1, c2⟩ := (S10.blk 2 rfl).cell3
    obtain ⟨f0, f1, f2⟩ := (S10.blk 10 rfl).cell3
    go_wp2_with fail
    refine (HF2.out h32 _ _ _ _ _ _ _ (S10.rd 0 rfl) (S10.rd 9 rfl) hc hc9).mono ?_
    rintro e w11 ⟨rfl, hb11⟩
    have S11 := (S10.keep hb11).box #[.int .i64 0, .int .i64 0] 48
    simp only [List.nil_append, List.cons_append] at S11
    clear S10 c0 c1 c2 f0 f1 f2
    obtain ⟨l0, l1, l2⟩ := (S11.blk 6 rfl).cell3
    obtain ⟨m0, m1, m2⟩ := (S11.blk 11 rfl).cell3
    obtain ⟨p0, p1⟩ := (S11.blk 12 rfl).cellP
    obtain ⟨d0, d1, d2⟩ := (S11.blk 3 rfl).cell3
    go_wp2_with fail
    refine (HVo.out _ _ _).mono ?_
    rintro e w12 ⟨rfl, hb12⟩
    have S12 := S11.keep hb12
    clear S11 d0 d1 d2 l0 l1 l2 m0 m1 m2 p0 p1
    obtain ⟨c0, c1, c2⟩ := (S12.blk 2 rfl).cell3
    obtain ⟨d0, d1, d2⟩ := (S12.blk 3 rfl).cell3
    go_wp2_with fail
    refine (HFo.out _ _ _ _ _ _ _ (S12.rd 0 rfl) (S12.rd 1 rfl) hc hcO).mono ?_
    rintro e w14 ⟨x14, y14, hi14, rfl, hb14⟩
    have S14 := (S12.keep hb14).box #[.int .i64 x14, .int .i64 y14] 48
    simp only [List.nil_append, List.cons_append] at S14
    clear S12 c0 c1 c2 d0 d1 d2
    obtain ⟨hxo, hyo⟩ := HWo.out _ _ hi14
    have HMN := Lib.hid (fun c c' A A' W h h' => HMo.out c c' A A' x14 y14 W h h' (by omega) (by omega) hi14)
    clear hi14
    obtain ⟨c0, c1, c2⟩ := (S14.blk 2 rfl).cell3
    obtain ⟨d0, d1, d2⟩ := (S14.blk 3 rfl).cell3
    go_wp2_with fail
    refine (HFb.out _ _ _ _ _ _ _ (S14.rd 1 rfl) (S14.rd 0 rfl) hcO hc).mono ?_
    rintro e w15 ⟨x15, y15, hi15, rfl, hb15⟩
    have S15 := (S14.keep hb15).box #[.int .i64 x15, .int .i64 y15] 48
    simp only [List.nil_append, List.cons_append] at S15
    clear S14 c0 c1 c2 d0 d1 d2
    clear hi15
    obtain ⟨d0, d1, d2⟩ := (S15.blk 3 rfl).cell3
    go_wp2_with fail
    refine (HOo.out _ _ _ _ (S15.rd 1 rfl) hcO).mono ?_
    rintro e w16 ⟨rfl, hb16⟩
    have S16 := (S15.keep hb16).box #[.int .i64 A, .int .i64 B, .int .i64 C] 23
    simp only [List.nil_append, List.cons_append] at S16
    clear S15 d0 d1 d2
    obtain ⟨c0, c1, c2⟩ := (S16.blk 2 rfl).cell3
    obtain ⟨d0, d1, d2⟩ := (S16.blk 3 rfl).cell3
    obtain ⟨l0, l1, l2⟩ := (S16.blk 6 rfl).cell3
    obtain ⟨m0, m1, m2⟩ := (S16.blk 15 rfl).cell3
    obtain ⟨p0, p1⟩ := (S16.blk 13 rfl).cellP
    go_wp2_with fail
    refine (HMN.out _ _ _ _ _ (S16.rd 0 rfl) (S16.rd 1 rfl)).mono ?_
    rintro e w17 ⟨rfl, hb17⟩
    have S17 := S16.keep hb17
    clear S16 c0 c1 c2 d0 d1 d2 l0 l1 l2 m0 m1 m2 p0 p1
    go_wp2_with fail
    refine (alive_any _).mono ?_
    rintro e w18 ⟨rfl, hb18⟩
    go_wp2_with fail
    go_ret
    exact ⟨rfl, (S17.keep hb18).below⟩
  · refine (HTi.out _ _ _ _ _ (HT4.out h32) (S8.rd 0 rfl)).mono ?_
    rintro e w9 ⟨A9, n9, cc9, rfl, hown9, hb9'⟩
    simp only [show Gd.zero.w = 0 from rfl, show Gd.zero.h = 0 from rfl]
    have S9 := (S8.keep hb9').alloc (.cells #[.int .i64 0, .int .i64 0, .slice A9 n9 cc9] 33)
    clear S8 c0 c1 c2 l0 l1 l2 p0 p1 hown9
    obtain ⟨d0, d1, d2⟩ := (S9.blk 3 rfl).cell3
    go_wp2_with fail
    refine (HVo.out _ _ _).mono ?_
    rintro e w12 ⟨rfl, hb12⟩
    have S12 := S9.keep hb12
    clear S9 d0 d1 d2
    obtain ⟨c0, c1, c2⟩ := (S12.blk 2 rfl).cell3
    obtain ⟨d0, d1, d2⟩ := (S12.blk 3 rfl).cell3
    go_wp2_with fail
    refine (HFo.out _ _ _ _ _ _ _ (S12.rd 0 rfl) (S12.rd 1 rfl) hc hcO).mono ?_
    rintro e w14 ⟨x14, y14, hi14, rfl, hb14⟩
    have S14 := (S12.keep hb14).box #[.int .i64 x14, .int .i64 y14] 48
    simp only [List.nil_append, List.cons_append] at S14
    clear S12 c0 c1 c2 d0 d1 d2
    obtain ⟨hxo, hyo⟩ := HWo.out _ _ hi14
    have HMN := Lib.hid (fun c c' A A' W h h' => HMo.out c c' A A' x14 y14 W h h' (by omega) (by omega) hi14)
    clear hi14
    obtain ⟨c0, c1, c2⟩ := (S14.blk 2 rfl).cell3
    obtain ⟨d0, d1, d2⟩ := (S14.blk 3 rfl).cell3
    go_wp2_with fail
    refine (HFb.out _ _ _ _ _ _ _ (S14.rd 1 rfl) (S14.rd 0 rfl) hcO hc).mono ?_
    rintro e w15 ⟨x15, y15, hi15, rfl, hb15⟩
    have S15 := (S14.keep hb15).box #[.int .i64 x15, .int .i64 y15] 48
    simp only [List.nil_append, List.cons_append] at S15
    clear S14 c0 c1 c2 d0 d1 d2
    clear hi15
    obtain ⟨d0, d1, d2⟩ := (S15.blk 3 rfl).cell3
    go_wp2_with fail
    refine (HOo.out _ _ _ _ (S15.rd 1 rfl) hcO).mono ?_
    rintro e w16 ⟨rfl, hb16⟩
    have S16 := (S15.keep hb16).box #[.int .i64 A, .int .i64 B, .int .i64 C] 23
    simp only [List.nil_append, List.cons_append] at S16
    clear S15 d0 d1 d2
    obtain ⟨c0, c1, c2⟩ := (S16.blk 2 rfl).cell3
    obtain ⟨d0, d1, d2⟩ := (S16.blk 3 rfl).cell3
    obtain ⟨l0, l1, l2⟩ := (S16.blk 6 rfl).cell3
    obtain ⟨m0, m1, m2⟩ := (S16.blk 11 rfl).cell3
    obtain ⟨p0, p1⟩ := (S16.blk 9 rfl).cellP
    go_wp2_with fail
    refine (HMN.out _ _ _ _ _ (S16.rd 0 rfl) (S16.rd 1 rfl)).mono ?_
    rintro e w17 ⟨rfl, hb17⟩
    have S17 := S16.keep hb17
    clear S16 c0 c1 c2 d0 d1 d2 l0 l1 l2 m0 m1 m2 p0 p1
    go_wp2_with fail
    refine (alive_any _).mono ?_
    rintro e w18 ⟨rfl, hb18⟩
    go_wp2_with fail
    go_ret
    exact ⟨rfl, (S17.keep hb18).below⟩
end Go.Proofs.YtkhochbkjhpfgaaDoor
