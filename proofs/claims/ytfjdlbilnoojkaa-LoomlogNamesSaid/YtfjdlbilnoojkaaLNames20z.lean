/- The law LoomlogNames, walked. -/
import Derived.Test.YtfjdlbilnoojkaaLN20Kz
import Derived.Test.YtfjdlbilnoojkaaMg5z
import Derived.Test.YtfjdlbilnoojkaaManz
import Derived.Deep.DeepCutAuto
namespace Go.Proofs.Ytfjdlbilnoojkaa
open Go.RowKit

theorem rd_pick {w : World} {g : Nat} (h : Blk w g 4 #[.bool true, .bool false]) : Rd w (some ⟨g, 0, none⟩) 2 ((liftB 1).map Value.bool) := rd_of_blk h
theorem rd_pick2 {w : World} {g : Nat} (h : Blk w g 4 #[.bool (decide ((1 : Int) % 2 = 1)), .bool (decide ((1 : Int) / 2 % 2 = 1))]) : Rd w (some ⟨g, 0, none⟩) 2 ((liftB 1).map Value.bool) := rd_of_blk h
theorem LE.log {w : World} {base tL tE n : Nat} {A : Option Addr} {c : Nat} {l : List Ev} (h : LE w base tL tE (.slice A n c) n l) (hn : 0 < n) : ∃ b o, A = some ⟨b, o, none⟩ ∧ LogR w A n l := by
  obtain ⟨b, o, h1, _⟩ := h.read.2 hn
  exact ⟨b, o, h1, h.read⟩
set_option linter.unusedVariables false in
set_option maxHeartbeats 16000000 in
set_option maxRecDepth 100000 in
theorem lnames20_walk (w : World) : Calls Try.prog 9 #[] w fun e w' => e = .returned (.bool true) ∧ Below w.heap.size w w' := by
  obtain ⟨i0, hi, hz0, hz1, hz2⟩ := info_parts2 Try.infoEv
  have HLF := Lib.hid (fun l n k b u hk hr hl hn => lf_any l n k b u hk hr hl hn)
  have HZ := Lib.hid (fun a b x y hx hy u ha hb => nzero a b x y hx hy u ha hb)
  have HPK := Lib.hid (fun u => lpick1_blk u)
  have HBK := Lib.hid (fun u => lback_any u)
  have HLI := Lib.hid (fun u => llift_any 1 u (.inl rfl))
  have HAL := Lib.hid (fun u => alive20_any u)
  go_enter Try.func9, Try.ntmps9
  go_wp2_with fail
  go_loopw [3, 1] (fun i v wr => ∃ (k cv : Nat) (Av : Option Addr), k ≤ 401 ∧ i = .int .i64 k ∧ v = .slice Av k cv ∧ LE wr w.heap.size 59 4 (.slice Av k cv) k (marksL k) ∧ Below w.heap.size w wr) (fun i _ _ => 401 - (intOf i).toNat)
  case atStart => exact ⟨0, 0, none, Nat.zero_le _, rfl, rfl, LE.nil _ _ _ _, Below.refl _ _⟩
  case round =>
  obtain ⟨k, cv, Av, hk, rfl, rfl, hle, hbel⟩ := hrel
  by_cases hlt : k < 401
  · have hd : decide ((k : Int) < 401) = true := decide_eq_true (by omega)
    have hle1 := fun o => hle.below (below_alloc1 wr o)
    have hsz := fun o => Nat.le_trans hbel.size (below_alloc1 wr o).size
    go_wp2_with (at_builtin; go_loud (refine wpList_ev _ rfl (.tmp 52) (.tmp 54) 22 rfl w.heap.size 59 4 i0 (.agg #[.int .u8 0, .slice none 0 0]) Try.underlying22 hi hz0 hz1 hz2 rfl (by decide) (.slice Av k cv) k _ rfl (hle1 _) wr.heap.size 3 none 0 0 [] rfl (Blk.new _ _ _) rfl ⟨Rd.nil_, fun b o hA => by cases hA⟩ (by omega) (hsz _) ?_))
    intro g cap w5 hle5 hgr5 hown5
    have hb5 := (hbel.alloc hbel.size _).grown hgr5 (hsz _) hown5
    go_wp2_with fail
    go_roundw
    case rel => exact ⟨k + 1, cap, _, by omega, by go_num, rfl, by rw [marksL_succ]; exact hle5, hb5⟩
    case measure => simp [intOf]; omega
  · obtain rfl : k = 401 := by omega
    rw [show ((401 : Nat) : Int) = 401 from rfl]
    obtain ⟨w1, rfl⟩ : ∃ q, q = wr := ⟨_, rfl⟩
    obtain ⟨bm, om, rfl, hlm⟩ := hle.log (by decide)
    have hcm : 401 ≤ cv := by
      obtain ⟨_, _, e1, e2, _⟩ := hle.shape
      injection e1 with _ _ e3
      omega
    clear hle hk hlt
    obtain ⟨cm, rfl⟩ : ∃ q, q = cv := ⟨_, rfl⟩
    go_wp2_with fail
    go_loopw [4, 2] (fun i v wr => ∃ (k cv : Nat) (Av : Option Addr), k ≤ 65 ∧ i = .int .i64 k ∧ v = .slice Av k cv ∧ LE wr w1.heap.size 59 4 (.slice Av k cv) k (fullL k) ∧ Below w1.heap.size w1 wr) (fun i _ _ => 65 - (intOf i).toNat)
    case atStart => exact ⟨0, 0, none, Nat.zero_le _, rfl, rfl, LE.nil _ _ _ _, Below.refl _ _⟩
    case round =>
    obtain ⟨k, cv, Av, hk, rfl, rfl, hle, hb1⟩ := hrel
    by_cases hlt : k < 65
    · have hd : decide ((k : Int) < 65) = true := decide_eq_true (by omega)
      go_wp2_with fail
      refine (HPK.out _).mono ?_
      rintro e w4 ⟨g4, rfl, hB4, hb4⟩
      have hle4 := hle.below hb4
      have hb14 := below_then hb1 hb4
      have hle1 := fun o => hle4.below (below_alloc1 w4 o)
      have hsz := fun o => Nat.le_trans hb14.size (below_alloc1 w4 o).size
      have hrow := fun o => (show RowAt (w4.alloc o) w1.heap.size 4 (some ⟨g4, 0, none⟩) (liftB 1) from ⟨(rd_pick hB4).alloc o, fun b o' hA _ => .inr ⟨#[.bool true, .bool false], (0, 0), by injection hA with e; injection e with e1 _; rw [← e1]; exact hB4.alloc o⟩⟩)
      go_wp2_with (at_builtin; go_loud (refine wpList_ev _ rfl (.tmp 60) (.tmp 62) 22 rfl w1.heap.size 59 4 i0 (.agg #[.int .u8 0, .slice none 0 0]) Try.underlying22 hi hz0 hz1 hz2 rfl (by decide) (.slice Av k cv) k _ rfl (hle1 _) w4.heap.size 1 (some ⟨g4, 0, none⟩) 2 2 (liftB 1) rfl (Blk.new _ _ _) rfl (hrow _) (by omega) (hsz _) ?_))
      intro g cap w5 hle5 hgr5 hown5
      have hb5 := (hb14.alloc hb14.size _).grown hgr5 (hsz _) hown5
      go_wp2_with fail
      go_roundw
      case rel => exact ⟨k + 1, cap, _, by omega, by go_num, rfl, by rw [fullL_succ]; exact hle5, hb5⟩
      case measure => simp [intOf]; omega
    · obtain rfl : k = 65 := by omega
      rw [show ((65 : Nat) : Int) = 65 from rfl]
      obtain ⟨w2, rfl⟩ : ∃ q, q = wr := ⟨_, rfl⟩
      obtain ⟨bf, of, rfl, hlf⟩ := hle.log (by decide)
      obtain ⟨cf, rfl⟩ : ∃ q, q = cv := ⟨_, rfl⟩
      clear hle hk hlt hi hz0 hz1 hz2
      have hbw := below_then hbel hb1
      have HM := Lib.hid (fun u (hu : Below w2.heap.size w2 u) => (hlm.below hb1).below hu)
      have HM4 := Lib.hid (fun u (hu : Below w2.heap.size w2 u) => marksL_take 401 400 (by decide) ▸ ((hlm.below hb1).below hu).take20 (show 400 ≤ 401 by decide))
      have HM3 := Lib.hid (fun u (hu : Below w2.heap.size w2 u) => marksL_take 401 399 (by decide) ▸ ((hlm.below hb1).below hu).take20 (show 399 ≤ 401 by decide))
      have HFU := Lib.hid (fun u (hu : Below w2.heap.size w2 u) => hlf.below hu)
      clear hlm hlf hb1 hbel
      have hcm4 : (400 : Int) ≤ cm := by omega
      have hcm3 : (399 : Int) ≤ cm := by omega
      have HCK := Lib.hid (fun (N t : Int) (l : List Ev) (h : chkE N l = t) A n c u hr => nchk h A n c u hr)
      have HRE := Lib.hid (fun (N t : Int) (l : List Ev) (h : replayG N l = (Gd.zero, t)) A n c u hr => nrep h A n c u hr)
      have HSH := Lib.hid (fun A n c u hr hc => nshort A n c u hr hc)
      have HFI := Lib.hid (fun (W H W2 H2 q k t : Int) (bs bt : List Bool) (hx : FindA W H bs W2 H2 bt q k t) A B nA cA nB cB u h hc h2 hc2 => nfind hx A B nA cA nB cB u h hc h2 hc2)
      have HME := Lib.hid (fun (W H t : Int) (bs : List Bool) (l m : List Ev) (nm : Nat) (hx : mendE W H bs l = (m, t)) (hm : m.length = nm) A B n c nB cB u h hc h2 hl => nmend hx hm A B n c nB cB u h hc h2 hl)
      have HSP := Lib.hid (fun (W H q k t : Int) (bs : List Bool) (hx : spoilG W H bs q k [] = (Gd.zero, t)) hq A nA cA u h hc => nspoil hx hq A nA cA u h hc)
      have S0 := St.start w2
      go_wp2_with fail
      refine (HCK.out _ _ _ n_c1 none 0 0 _ (LogR.nil _ _)).mono ?_
      rintro e w1 ⟨rfl, hb1⟩
      have S2 := S0.keep hb1
      clear S0
      clear hb1
      go_wp2_with fail
      refine (HCK.out _ _ _ n_c2 none 0 0 _ (LogR.nil _ _)).mono ?_
      rintro e w3 ⟨rfl, hb3⟩
      have S4 := S2.keep hb3
      clear S2
      clear hb3
      go_wp2_with fail
      refine (HCK.out _ _ _ n_c3 _ 401 cm _ (HM.out _ S4.below)).mono ?_
      rintro e w5 ⟨rfl, hb5⟩
      have S6 := S4.keep hb5
      clear S4
      clear hb5
      go_wp2_with fail
      refine (HCK.out _ _ _ n_c4 _ 400 cm _ (HM4.out _ S6.below)).mono ?_
      rintro e w7 ⟨rfl, hb7⟩
      have S8 := S6.keep hb7
      clear S6
      clear hb7
      go_wp2_with fail
      refine (HPK.out _).mono ?_
      rintro e w9 ⟨g9, rfl, hB9, hb9⟩
      have S10 := S8.keep hb9
      clear S8
      clear hb9
      have hr9 := rd_pick hB9
      have S11 := S10.addRd hr9
      simp only [List.nil_append] at S11
      clear S10
      clear hB9 hr9
      have S12 := S11.box #[.int .u8 1, .slice (some ⟨g9, 0, none⟩) 2 2] 59
      simp only [List.nil_append, List.cons_append] at S12
      clear S11
      go_wp2_with fail
      refine (HCK.out _ _ _ n_c5 _ 1 1 _ (log_one (S12.blk 1 rfl) (S12.rd 0 rfl))).mono ?_
      rintro e w13 ⟨rfl, hb13⟩
      have S14 := S12.keep hb13
      clear S12
      clear hb13
      have S15 := (show St w2 [] _ from ⟨S14.1, by simp⟩)
      clear S14
      have S16 := S15.box #[.int .u8 4, .slice none 0 0] 59
      simp only [List.nil_append] at S16
      clear S15
      go_wp2_with fail
      refine (HCK.out _ _ _ n_c6 _ 1 1 _ (log_one (S16.blk 0 rfl) Rd.nil_)).mono ?_
      rintro e w17 ⟨rfl, hb17⟩
      have S18 := S16.keep hb17
      clear S16
      clear hb17
      have S19 := (show St w2 [] _ from ⟨S18.1, by simp⟩)
      clear S18
      have S20 := S19.box #[.int .u8 0, .slice none 0 0] 59
      simp only [List.nil_append] at S20
      clear S19
      go_wp2_with fail
      refine (HCK.out _ _ _ n_c7 _ 1 1 _ (log_one (S20.blk 0 rfl) Rd.nil_)).mono ?_
      rintro e w21 ⟨rfl, hb21⟩
      have S22 := S20.keep hb21
      clear S20
      clear hb21
      have S23 := (show St w2 [] _ from ⟨S22.1, by simp⟩)
      clear S22
      go_wp2_with fail
      refine (HLI.out _).mono ?_
      rintro e w24 ⟨rfl, hB24, hb24⟩
      have hr24 := rd_pick2 hB24
      have S25 := S23.keep hb24
      clear S23
      have S26 := S25.addRd hr24
      simp only [List.nil_append] at S26
      clear S25
      clear hB24 hr24 hb24
      have S27 := S26.box #[.int .u8 2, .slice (some ⟨w21.heap.size, 0, none⟩) 2 2] 59
      simp only [List.nil_append, List.cons_append] at S27
      clear S26
      go_wp2_with fail
      refine (HCK.out _ _ _ n_c8 _ 1 1 _ (log_one (S27.blk 1 rfl) (S27.rd 0 rfl))).mono ?_
      rintro e w28 ⟨rfl, hb28⟩
      have S29 := S27.keep hb28
      clear S27
      clear hb28
      have S30 := (show St w2 [] _ from ⟨S29.1, by simp⟩)
      clear S29
      go_wp2_with fail
      refine (HBK.out _).mono ?_
      rintro e w31 ⟨rfl, hb31⟩
      have S32 := S30.keep hb31
      clear S30
      clear hb31
      have S33 := S32.box #[.int .u8 2, .slice none 0 0] 59
      simp only [List.nil_append] at S33
      clear S32
      go_wp2_with fail
      refine (HRE.out _ _ _ n_b _ 1 1 _ (log_one (S33.blk 0 rfl) Rd.nil_)).mono ?_
      rintro e w34 ⟨A34, n34, c34, rfl, hb34⟩
      have S35 := S33.keep hb34
      clear S33
      clear hb34
      have S36 := S35.alloc (.cells #[.int .i64 0, .int .i64 0, .slice A34 n34 c34] 25)
      clear S35
      have S37 := (show St w2 [] _ from ⟨S36.1, by simp⟩)
      clear S36
      go_wp2_with fail
      refine (HRE.out _ _ _ n_c _ 65 cf _ (HFU.out _ S37.below)).mono ?_
      rintro e w38 ⟨A38, n38, c38, rfl, hb38⟩
      have S39 := S37.keep hb38
      clear S37
      clear hb38
      have S40 := S39.alloc (.cells #[.int .i64 0, .int .i64 0, .slice A38 n38 c38] 25)
      clear S39
      go_wp2_with fail
      refine (HRE.out _ _ _ n_d none 0 0 _ (LogR.nil _ _)).mono ?_
      rintro e w41 ⟨A41, n41, c41, rfl, hb41⟩
      have S42 := S40.keep hb41
      clear S40
      clear hb41
      have S43 := S42.alloc (.cells #[.int .i64 0, .int .i64 0, .slice A41 n41 c41] 25)
      clear S42
      go_wp2_with fail
      refine (HPK.out _).mono ?_
      rintro e w44 ⟨g44, rfl, hB44, hb44⟩
      have S45 := S43.keep hb44
      clear S43
      clear hb44
      have hr44 := rd_pick hB44
      have S46 := S45.addRd hr44
      simp only [List.nil_append] at S46
      clear S45
      clear hB44 hr44
      go_wp2_with fail
      refine (HBK.out _).mono ?_
      rintro e w47 ⟨rfl, hb47⟩
      have S48 := S46.keep hb47
      clear S46
      clear hb47
      have S49 := S48.box #[.int .u8 1, .slice (some ⟨g44, 0, none⟩) 2 2, .int .u8 2, .slice none 0 0] 59
      simp only [List.nil_append, List.cons_append] at S49
      clear S48
      go_wp2_with fail
      refine (HRE.out _ _ _ n_e _ 2 2 _ (log_pick_back (S49.blk 1 rfl) (S49.rd 0 rfl))).mono ?_
      rintro e w50 ⟨A50, n50, c50, rfl, hb50⟩
      have S51 := S49.keep hb50
      clear S49
      clear hb50
      have S52 := S51.alloc (.cells #[.int .i64 0, .int .i64 0, .slice A50 n50 c50] 25)
      clear S51
      have S53 := (show St w2 [] _ from ⟨S52.1, by simp⟩)
      clear S52
      go_wp2_with fail
      refine (HZ.out 41 1 41 1 rfl rfl _ (by decide) (by decide)).mono ?_
      rintro e w54 ⟨A54, n54, c54, rfl, hr54, hc54, hb54⟩
      have S55 := S53.keep hb54
      clear S53
      clear hb54
      have S56 := S55.addRd hr54
      simp only [List.nil_append] at S56
      clear S55
      clear hr54
      go_wp2_with fail
      refine (HSH.out A54 n54 c54 _ (S56.rd 0 rfl) hc54).mono ?_
      rintro e w57 ⟨A57, n57, c57, rfl, hb57⟩
      have S58 := S56.keep hb57
      clear S56
      clear hb57
      have S59 := (show St w2 [] _ from ⟨S58.1, by simp⟩)
      clear S58
      have S60 := S59.box #[.int .i64 1] 3
      simp only [List.nil_append] at S60
      clear S59
      go_wp2_with fail
      refine (HLF.out [1] 1 1 _ _ rfl (rd_of_blk (S60.blk 0 rfl)) (by decide) (by decide)).mono ?_
      rintro e w61 ⟨A61, n61, c61, rfl, hr61, hc61, hb61⟩
      have S62 := S60.keep hb61
      clear S60
      clear hb61
      have S63 := S62.addRd hr61
      simp only [List.nil_append, List.cons_append] at S63
      clear S62
      clear hr61
      go_wp2_with fail
      refine (HFI.out _ _ _ _ _ _ _ _ _ n_g A61 none n61 c61 0 0 _ (S63.rd 1 rfl) hc61 Rd.nil_ (Nat.le_refl _)).mono ?_
      rintro e w64 ⟨rfl, hb64⟩
      have S65 := S63.keep hb64
      clear S63
      clear hb64
      have S66 := S65.alloc (.cells #[.int .u8 0, .int .i64 0] 46)
      clear S65
      have S67 := (show St w2 [] _ from ⟨S66.1, by simp⟩)
      clear S66
      have S68 := S67.box #[.int .i64 1] 3
      simp only [size_alloc1, List.nil_append] at S68
      clear S67
      go_wp2_with fail
      refine (HLF.out [1] 1 1 _ _ rfl (rd_of_blk (S68.blk 0 rfl)) (by decide) (by decide)).mono ?_
      rintro e w69 ⟨A69, n69, c69, rfl, hr69, hc69, hb69⟩
      have S70 := S68.keep hb69
      clear S68
      clear hb69
      have S71 := S70.addRd hr69
      simp only [List.nil_append, List.cons_append] at S71
      clear S70
      clear hr69
      go_wp2_with fail
      refine (HZ.out 3 1 3 1 rfl rfl _ (by decide) (by decide)).mono ?_
      rintro e w72 ⟨A72, n72, c72, rfl, hr72, hc72, hb72⟩
      have S73 := S71.keep hb72
      clear S71
      clear hb72
      have S74 := S73.addRd hr72
      simp only [List.nil_append, List.cons_append] at S74
      clear S73
      clear hr72
      go_wp2_with fail
      refine (HFI.out _ _ _ _ _ _ _ _ _ n_h A69 A72 n69 c69 n72 c72 _ (S74.rd 1 rfl) hc69 (S74.rd 2 rfl) hc72).mono ?_
      rintro e w75 ⟨rfl, hb75⟩
      have S76 := S74.keep hb75
      clear S74
      clear hb75
      have S77 := S76.alloc (.cells #[.int .u8 0, .int .i64 0] 46)
      clear S76
      have S78 := (show St w2 [] _ from ⟨S77.1, by simp⟩)
      clear S77
      have S79 := S78.box #[.int .i64 1, .int .i64 2] 3
      simp only [size_alloc1, List.nil_append] at S79
      clear S78
      go_wp2_with fail
      refine (HLF.out [1, 2] 2 2 _ _ rfl (rd_of_blk (S79.blk 0 rfl)) (by decide) (by decide)).mono ?_
      rintro e w80 ⟨A80, n80, c80, rfl, hr80, hc80, hb80⟩
      have S81 := S79.keep hb80
      clear S79
      clear hb80
      have S82 := S81.addRd hr80
      simp only [List.nil_append, List.cons_append] at S82
      clear S81
      clear hr80
      have S83 := S82.box #[.int .i64 2, .int .i64 1] 3
      simp only [List.nil_append, List.cons_append] at S83
      clear S82
      go_wp2_with fail
      refine (HLF.out [2, 1] 2 2 _ _ rfl (rd_of_blk (S83.blk 2 rfl)) (by decide) (by decide)).mono ?_
      rintro e w84 ⟨A84, n84, c84, rfl, hr84, hc84, hb84⟩
      have S85 := S83.keep hb84
      clear S83
      clear hb84
      have S86 := S85.addRd hr84
      simp only [List.nil_append, List.cons_append] at S86
      clear S85
      clear hr84
      go_wp2_with fail
      refine (HFI.out _ _ _ _ _ _ _ _ _ n_i A80 A84 n80 c80 n84 c84 _ (S86.rd 1 rfl) hc80 (S86.rd 3 rfl) hc84).mono ?_
      rintro e w87 ⟨rfl, hb87⟩
      have S88 := S86.keep hb87
      clear S86
      clear hb87
      have S89 := S88.alloc (.cells #[.int .u8 0, .int .i64 0] 46)
      clear S88
      have S90 := (show St w2 [] _ from ⟨S89.1, by simp⟩)
      clear S89
      have S91 := S90.box #[.int .i64 1, .int .i64 2, .int .i64 3] 3
      simp only [size_alloc1, List.nil_append] at S91
      clear S90
      go_wp2_with fail
      refine (HLF.out [1, 2, 3] 3 3 _ _ rfl (rd_of_blk (S91.blk 0 rfl)) (by decide) (by decide)).mono ?_
      rintro e w92 ⟨A92, n92, c92, rfl, hr92, hc92, hb92⟩
      have S93 := S91.keep hb92
      clear S91
      clear hb92
      have S94 := S93.addRd hr92
      simp only [List.nil_append, List.cons_append] at S94
      clear S93
      clear hr92
      have S95 := S94.box #[.int .i64 1] 3
      simp only [List.nil_append, List.cons_append] at S95
      clear S94
      go_wp2_with fail
      refine (HLF.out [1] 1 1 _ _ rfl (rd_of_blk (S95.blk 2 rfl)) (by decide) (by decide)).mono ?_
      rintro e w96 ⟨A96, n96, c96, rfl, hr96, hc96, hb96⟩
      have S97 := S95.keep hb96
      clear S95
      clear hb96
      have S98 := S97.addRd hr96
      simp only [List.nil_append, List.cons_append] at S98
      clear S97
      clear hr96
      go_wp2_with fail
      refine (HFI.out _ _ _ _ _ _ _ _ _ n_j A92 A96 n92 c92 n96 c96 _ (S98.rd 1 rfl) hc92 (S98.rd 3 rfl) hc96).mono ?_
      rintro e w99 ⟨rfl, hb99⟩
      have S100 := S98.keep hb99
      clear S98
      clear hb99
      have S101 := S100.alloc (.cells #[.int .u8 0, .int .i64 0] 46)
      clear S100
      have S102 := (show St w2 [] _ from ⟨S101.1, by simp⟩)
      clear S101
      have S103 := S102.box #[.int .i64 1, .int .i64 2] 3
      simp only [size_alloc1, List.nil_append] at S103
      clear S102
      go_wp2_with fail
      refine (HLF.out [1, 2] 2 2 _ _ rfl (rd_of_blk (S103.blk 0 rfl)) (by decide) (by decide)).mono ?_
      rintro e w104 ⟨A104, n104, c104, rfl, hr104, hc104, hb104⟩
      have S105 := S103.keep hb104
      clear S103
      clear hb104
      have S106 := S105.addRd hr104
      simp only [List.nil_append, List.cons_append] at S106
      clear S105
      clear hr104
      have S107 := S106.box #[.int .i64 1, .int .i64 2, .int .i64 2] 3
      simp only [List.nil_append, List.cons_append] at S107
      clear S106
      go_wp2_with fail
      refine (HLF.out [1, 2, 2] 3 3 _ _ rfl (rd_of_blk (S107.blk 2 rfl)) (by decide) (by decide)).mono ?_
      rintro e w108 ⟨A108, n108, c108, rfl, hr108, hc108, hb108⟩
      have S109 := S107.keep hb108
      clear S107
      clear hb108
      have S110 := S109.addRd hr108
      simp only [List.nil_append, List.cons_append] at S110
      clear S109
      clear hr108
      go_wp2_with fail
      refine (HFI.out _ _ _ _ _ _ _ _ _ n_k A104 A108 n104 c104 n108 c108 _ (S110.rd 1 rfl) hc104 (S110.rd 3 rfl) hc108).mono ?_
      rintro e w111 ⟨rfl, hb111⟩
      have S112 := S110.keep hb111
      clear S110
      clear hb111
      have S113 := S112.box #[.int .u8 2, .int .i64 1] 46
      simp only [List.nil_append, List.cons_append] at S113
      clear S112
      have S114 := ((show St w2 [] _ from ⟨S113.1, by simp⟩)).addBlk (S113.blk 4 rfl)
      simp only [List.nil_append] at S114
      clear S113
      have S115 := S114.box #[.int .i64 1, .int .i64 1, .int .i64 2] 3
      simp only [size_alloc1, List.nil_append, List.cons_append] at S115
      clear S114
      go_wp2_with fail
      refine (HLF.out [1, 1, 2] 3 3 _ _ rfl (rd_of_blk (S115.blk 1 rfl)) (by decide) (by decide)).mono ?_
      rintro e w116 ⟨A116, n116, c116, rfl, hr116, hc116, hb116⟩
      have S117 := S115.keep hb116
      clear S115
      clear hb116
      have S118 := S117.addRd hr116
      simp only [List.nil_append, List.cons_append] at S118
      clear S117
      clear hr116
      have S119 := S118.box #[.int .i64 1, .int .i64 3, .int .i64 2] 3
      simp only [List.nil_append, List.cons_append] at S119
      clear S118
      go_wp2_with fail
      refine (HLF.out [1, 3, 2] 3 3 _ _ rfl (rd_of_blk (S119.blk 3 rfl)) (by decide) (by decide)).mono ?_
      rintro e w120 ⟨A120, n120, c120, rfl, hr120, hc120, hb120⟩
      have S121 := S119.keep hb120
      clear S119
      clear hb120
      have S122 := S121.addRd hr120
      simp only [List.nil_append, List.cons_append] at S122
      clear S121
      clear hr120
      go_wp2_with fail
      refine (HFI.out _ _ _ _ _ _ _ _ _ n_m A116 A120 n116 c116 n120 c120 _ (S122.rd 2 rfl) hc116 (S122.rd 4 rfl) hc120).mono ?_
      rintro e w123 ⟨rfl, hb123⟩
      have S124 := S122.keep hb123
      clear S122
      clear hb123
      have S125 := S124.box #[.int .u8 3, .int .i64 1] 46
      simp only [List.nil_append, List.cons_append] at S125
      clear S124
      have S126 := (((show St w2 [] _ from ⟨S125.1, by simp⟩)).addBlk (S125.blk 0 rfl)).addBlk (S125.blk 5 rfl)
      simp only [List.nil_append, List.cons_append] at S126
      clear S125
      have S127 := S126.box #[.int .i64 1, .int .i64 2] 3
      simp only [size_alloc1, List.nil_append, List.cons_append] at S127
      clear S126
      go_wp2_with fail
      refine (HLF.out [1, 2] 2 2 _ _ rfl (rd_of_blk (S127.blk 2 rfl)) (by decide) (by decide)).mono ?_
      rintro e w128 ⟨A128, n128, c128, rfl, hr128, hc128, hb128⟩
      have S129 := S127.keep hb128
      clear S127
      clear hb128
      have S130 := S129.addRd hr128
      simp only [List.nil_append, List.cons_append] at S130
      clear S129
      clear hr128
      have S131 := S130.box #[.int .i64 1, .int .i64 2] 3
      simp only [List.nil_append, List.cons_append] at S131
      clear S130
      go_wp2_with fail
      refine (HLF.out [1, 2] 2 2 _ _ rfl (rd_of_blk (S131.blk 4 rfl)) (by decide) (by decide)).mono ?_
      rintro e w132 ⟨A132, n132, c132, rfl, hr132, hc132, hb132⟩
      have S133 := S131.keep hb132
      clear S131
      clear hb132
      have S134 := S133.addRd hr132
      simp only [List.nil_append, List.cons_append] at S134
      clear S133
      clear hr132
      go_wp2_with fail
      refine (HFI.out _ _ _ _ _ _ _ _ _ n_o A128 A132 n128 c128 n132 c132 _ (S134.rd 3 rfl) hc128 (S134.rd 5 rfl) hc132).mono ?_
      rintro e w135 ⟨rfl, hb135⟩
      have S136 := S134.keep hb135
      clear S134
      clear hb135
      have S137 := S136.box #[.int .u8 0, .int .i64 0] 46
      simp only [List.nil_append, List.cons_append] at S137
      clear S136
      have S138 := ((((show St w2 [] _ from ⟨S137.1, by simp⟩)).addBlk (S137.blk 0 rfl)).addBlk (S137.blk 1 rfl)).addBlk (S137.blk 6 rfl)
      simp only [List.nil_append, List.cons_append] at S138
      clear S137
      have S139 := S138.box #[.int .i64 1] 3
      simp only [size_alloc1, List.nil_append, List.cons_append] at S139
      clear S138
      go_wp2_with fail
      refine (HLF.out [1] 1 1 _ _ rfl (rd_of_blk (S139.blk 3 rfl)) (by decide) (by decide)).mono ?_
      rintro e w140 ⟨A140, n140, c140, rfl, hr140, hc140, hb140⟩
      have S141 := S139.keep hb140
      clear S139
      clear hb140
      have S142 := S141.addRd hr140
      simp only [List.nil_append, List.cons_append] at S142
      clear S141
      clear hr140
      go_wp2_with fail
      refine (HSP.out _ _ _ _ _ _ n_q (by decide) A140 n140 c140 _ (S142.rd 4 rfl) hc140).mono ?_
      rintro e w143 ⟨A143, n143, c143, rfl, hb143⟩
      have S144 := S142.keep hb143
      clear S142
      clear hb143
      have S145 := S144.alloc (.cells #[.int .i64 0, .int .i64 0, .slice A143 n143 c143] 25)
      clear S144
      have S146 := ((((show St w2 [] _ from ⟨S145.1, by simp⟩)).addBlk (S145.blk 0 rfl)).addBlk (S145.blk 1 rfl)).addBlk (S145.blk 2 rfl)
      simp only [List.nil_append, List.cons_append] at S146
      clear S145
      have S147 := S146.box #[.int .i64 1] 3
      simp only [size_alloc1, List.nil_append, List.cons_append] at S147
      clear S146
      go_wp2_with fail
      refine (HLF.out [1] 1 1 _ _ rfl (rd_of_blk (S147.blk 3 rfl)) (by decide) (by decide)).mono ?_
      rintro e w148 ⟨A148, n148, c148, rfl, hr148, hc148, hb148⟩
      have S149 := S147.keep hb148
      clear S147
      clear hb148
      have S150 := S149.addRd hr148
      simp only [List.nil_append, List.cons_append] at S150
      clear S149
      clear hr148
      go_wp2_with fail
      refine (HSP.out _ _ _ _ _ _ n_r (by decide) A148 n148 c148 _ (S150.rd 4 rfl) hc148).mono ?_
      rintro e w151 ⟨A151, n151, c151, rfl, hb151⟩
      have S152 := S150.keep hb151
      clear S150
      clear hb151
      have S153 := S152.alloc (.cells #[.int .i64 0, .int .i64 0, .slice A151 n151 c151] 25)
      clear S152
      have S154 := ((((show St w2 [] _ from ⟨S153.1, by simp⟩)).addBlk (S153.blk 0 rfl)).addBlk (S153.blk 1 rfl)).addBlk (S153.blk 2 rfl)
      simp only [List.nil_append, List.cons_append] at S154
      clear S153
      have S155 := S154.box #[.int .i64 1] 3
      simp only [size_alloc1, List.nil_append, List.cons_append] at S155
      clear S154
      go_wp2_with fail
      refine (HLF.out [1] 1 1 _ _ rfl (rd_of_blk (S155.blk 3 rfl)) (by decide) (by decide)).mono ?_
      rintro e w156 ⟨A156, n156, c156, rfl, hr156, hc156, hb156⟩
      have S157 := S155.keep hb156
      clear S155
      clear hb156
      have S158 := S157.addRd hr156
      simp only [List.nil_append, List.cons_append] at S158
      clear S157
      clear hr156
      go_wp2_with fail
      refine (HSP.out _ _ _ _ _ _ n_s (by decide) A156 n156 c156 _ (S158.rd 4 rfl) hc156).mono ?_
      rintro e w159 ⟨A159, n159, c159, rfl, hb159⟩
      have S160 := S158.keep hb159
      clear S158
      clear hb159
      have S161 := S160.alloc (.cells #[.int .i64 0, .int .i64 0, .slice A159 n159 c159] 25)
      clear S160
      have S162 := ((((show St w2 [] _ from ⟨S161.1, by simp⟩)).addBlk (S161.blk 0 rfl)).addBlk (S161.blk 1 rfl)).addBlk (S161.blk 2 rfl)
      simp only [List.nil_append, List.cons_append] at S162
      clear S161
      have S163 := S162.box #[.int .i64 1] 3
      simp only [size_alloc1, List.nil_append, List.cons_append] at S163
      clear S162
      go_wp2_with fail
      refine (HLF.out [1] 1 1 _ _ rfl (rd_of_blk (S163.blk 3 rfl)) (by decide) (by decide)).mono ?_
      rintro e w164 ⟨A164, n164, c164, rfl, hr164, hc164, hb164⟩
      have S165 := S163.keep hb164
      clear S163
      clear hb164
      have S166 := S165.addRd hr164
      simp only [List.nil_append, List.cons_append] at S166
      clear S165
      clear hr164
      go_wp2_with fail
      refine (HSP.out _ _ _ _ _ _ n_t (by decide) A164 n164 c164 _ (S166.rd 4 rfl) hc164).mono ?_
      rintro e w167 ⟨A167, n167, c167, rfl, hb167⟩
      have S168 := S166.keep hb167
      clear S166
      clear hb167
      have S169 := S168.alloc (.cells #[.int .i64 0, .int .i64 0, .slice A167 n167 c167] 25)
      clear S168
      have S170 := ((((show St w2 [] _ from ⟨S169.1, by simp⟩)).addBlk (S169.blk 0 rfl)).addBlk (S169.blk 1 rfl)).addBlk (S169.blk 2 rfl)
      simp only [List.nil_append, List.cons_append] at S170
      clear S169
      go_wp2_with fail
      refine (HZ.out 2 64 2 64 rfl rfl _ (by decide) (by decide)).mono ?_
      rintro e w171 ⟨A171, n171, c171, rfl, hr171, hc171, hb171⟩
      have S172 := S170.keep hb171
      clear S170
      clear hb171
      have S173 := S172.addRd hr171
      simp only [List.nil_append, List.cons_append] at S173
      clear S172
      clear hr171
      go_wp2_with fail
      refine (HSP.out _ _ _ _ _ _ n_u (by decide) A171 n171 c171 _ (S173.rd 3 rfl) hc171).mono ?_
      rintro e w174 ⟨A174, n174, c174, rfl, hb174⟩
      have S175 := S173.keep hb174
      clear S173
      clear hb174
      have S176 := S175.alloc (.cells #[.int .i64 0, .int .i64 0, .slice A174 n174 c174] 25)
      clear S175
      have S177 := ((((show St w2 [] _ from ⟨S176.1, by simp⟩)).addBlk (S176.blk 0 rfl)).addBlk (S176.blk 1 rfl)).addBlk (S176.blk 2 rfl)
      simp only [List.nil_append, List.cons_append] at S177
      clear S176
      have S178 := S177.box #[.int .i64 1, .int .i64 2] 3
      simp only [size_alloc1, List.nil_append, List.cons_append] at S178
      clear S177
      go_wp2_with fail
      refine (HLF.out [1, 2] 2 2 _ _ rfl (rd_of_blk (S178.blk 3 rfl)) (by decide) (by decide)).mono ?_
      rintro e w179 ⟨A179, n179, c179, rfl, hr179, hc179, hb179⟩
      have S180 := S178.keep hb179
      clear S178
      clear hb179
      have S181 := S180.addRd hr179
      simp only [List.nil_append, List.cons_append] at S181
      clear S180
      clear hr179
      go_wp2_with fail
      refine (HSP.out _ _ _ _ _ _ n_v (by decide) A179 n179 c179 _ (S181.rd 4 rfl) hc179).mono ?_
      rintro e w182 ⟨A182, n182, c182, rfl, hb182⟩
      have S183 := S181.keep hb182
      clear S181
      clear hb182
      have S184 := S183.alloc (.cells #[.int .i64 0, .int .i64 0, .slice A182 n182 c182] 25)
      clear S183
      have S185 := ((((show St w2 [] _ from ⟨S184.1, by simp⟩)).addBlk (S184.blk 0 rfl)).addBlk (S184.blk 1 rfl)).addBlk (S184.blk 2 rfl)
      simp only [List.nil_append, List.cons_append] at S185
      clear S184
      go_upto_region 29 with fail
      have SD186 := (S185.box #[.int .i64 1] 3).drew
      clear S185
      simp only [size_alloc1, List.nil_append, List.cons_append] at SD186
      refine wp_region_held_drew (S := (fun _ => True)) (by kernel_rfl) ?_ (fun hHeld => ?_)
      · (try dsimp only); try exact trivial
      refine man_take 2 231 (v := ?_) ⟨_, rfl, rfl⟩ (by as_aux_lemma => kernel_rfl) (by as_aux_lemma => kernel_rfl) (by as_aux_lemma => kernel_rfl) (fun _ _ _ h => h) (by assumption) ?_ ?_
      rotate_left
      · intro oi ho; cases ho; refine ⟨by rfl, ?_⟩; intro w hSw; (try dsimp only at hSw); go_simp; try with_reducible rfl
      (try simp only [Act.put, List.setIfInBounds_toArray, List.set_cons_zero, List.set_cons_succ])
      refine man_take 3 232 (v := ?_) ⟨_, rfl, rfl⟩ (by as_aux_lemma => kernel_rfl) (by as_aux_lemma => kernel_rfl) (by as_aux_lemma => kernel_rfl) (fun _ _ _ h => h) (by assumption) ?_ ?_
      rotate_left
      · intro oi ho; cases ho; refine ⟨by rfl, ?_⟩; intro w hSw; (try dsimp only at hSw); go_simp; try with_reducible rfl
      (try simp only [Act.put, List.setIfInBounds_toArray, List.set_cons_zero, List.set_cons_succ])
      refine man_run 0 rfl (by as_aux_lemma => kernel_rfl) (fun K hK => ?_)
      go_simp
      refine hK.out _ _ ?_ (fun hHeld => ?_)
      · (try dsimp only); try exact trivial
      clear hK K
      (try simp only [Act.put, List.setIfInBounds_toArray, List.set_cons_zero, List.set_cons_succ])
      refine man_run 1 rfl (by as_aux_lemma => kernel_rfl) (fun K hK => ?_)
      go_simp
      refine (HLF.out [1] 1 1 _ _ rfl (rd_of_blk (SD186.blk 3 rfl)) (by decide) (by decide)).mono ?_
      rintro e wA186 ⟨A186, n186, c186, rfl, hr186, hc186, hx186⟩
      have SE186 := SD186.keep hx186
      go_wp2_with fail
      refine hK.out _ _ ?_ (fun hHeld => ?_)
      · (try dsimp only); try exact trivial
      clear hK K
      (try simp only [Act.put, List.setIfInBounds_toArray, List.set_cons_zero, List.set_cons_succ])
      refine man_run 4 rfl (by as_aux_lemma => kernel_rfl) (fun K hK => ?_)
      go_simp
      refine (HME.out _ _ _ _ _ _ 0 n_w rfl A186 _ n186 c186 400 cm _ hr186 hc186 (HM4.out _ SE186.below) (by decide)).mono ?_
      rintro e wB186 ⟨Ax186, cx186, rfl, hy186⟩
      have SF186 := SE186.keep hy186
      go_wp2_with fail
      refine hK.out _ _ ?_ (fun hHeld => ?_)
      · (try dsimp only); try exact trivial
      clear hK K
      (try simp only [Act.put, List.setIfInBounds_toArray, List.set_cons_zero, List.set_cons_succ])
      refine man_take 5 228 (v := ?_) ⟨_, rfl, rfl⟩ (by as_aux_lemma => kernel_rfl) (by as_aux_lemma => kernel_rfl) (by as_aux_lemma => kernel_rfl) (fun _ _ _ h => h) (by assumption) ?_ ?_
      rotate_left
      · intro oi ho; cases ho; refine ⟨by rfl, ?_⟩; intro w hSw; (try dsimp only at hSw); go_simp; try with_reducible rfl
      (try simp only [Act.put, List.setIfInBounds_toArray, List.set_cons_zero, List.set_cons_succ])
      refine man_take 6 234 (v := ?_) ⟨_, rfl, rfl⟩ (by as_aux_lemma => kernel_rfl) (by as_aux_lemma => kernel_rfl) (by as_aux_lemma => kernel_rfl) (fun _ _ _ h => h) (by assumption) ?_ ?_
      rotate_left
      · intro oi ho; cases ho; refine ⟨by rfl, ?_⟩; intro w hSw; (try dsimp only at hSw); go_simp; try with_reducible rfl
      (try simp only [Act.put, List.setIfInBounds_toArray, List.set_cons_zero, List.set_cons_succ])
      refine man_take 7 235 (v := ?_) ⟨_, rfl, rfl⟩ (by as_aux_lemma => kernel_rfl) (by as_aux_lemma => kernel_rfl) (by as_aux_lemma => kernel_rfl) (fun _ _ _ h => h) (by assumption) ?_ ?_
      rotate_left
      · intro oi ho; cases ho; refine ⟨by rfl, ?_⟩; intro w hSw; (try dsimp only at hSw); go_simp; try with_reducible rfl
      (try simp only [Act.put, List.setIfInBounds_toArray, List.set_cons_zero, List.set_cons_succ])
      refine man_run 8 rfl (by as_aux_lemma => kernel_rfl) (fun K hK => ?_)
      go_simp
      refine hK.out _ _ ?_ (fun hHeld => ?_)
      · (try dsimp only); try exact trivial
      clear hK K
      (try simp only [Act.put, List.setIfInBounds_toArray, List.set_cons_zero, List.set_cons_succ])
      refine man_run 9 rfl (by as_aux_lemma => kernel_rfl) (fun K hK => ?_)
      go_simp
      refine hK.out _ _ ?_ (fun hHeld => ?_)
      · (try dsimp only); try exact trivial
      clear hK K
      (try simp only [Act.put, List.setIfInBounds_toArray, List.set_cons_zero, List.set_cons_succ])
      refine wpAnyH_done (by kernel_rfl) ?_ _
      clear SD186 SE186 hr186 hc186 hx186 hy186
      have S187 := ((((show St w2 [] _ from ⟨SF186.1, by simp⟩)).addBlk (SF186.blk 0 rfl)).addBlk (SF186.blk 1 rfl)).addBlk (SF186.blk 2 rfl)
      simp only [List.nil_append, List.cons_append] at S187
      clear SF186
      go_upto_region 30 with fail
      have SD188 := (S187.box #[.int .i64 1] 3).drew
      clear S187
      simp only [List.nil_append, List.cons_append] at SD188
      refine wp_region_held_drew (S := (fun _ => True)) (by kernel_rfl) ?_ (fun hHeld => ?_)
      · (try dsimp only); try exact trivial
      refine man_take 2 239 (v := ?_) ⟨_, rfl, rfl⟩ (by as_aux_lemma => kernel_rfl) (by as_aux_lemma => kernel_rfl) (by as_aux_lemma => kernel_rfl) (fun _ _ _ h => h) (by assumption) ?_ ?_
      rotate_left
      · intro oi ho; cases ho; refine ⟨by rfl, ?_⟩; intro w hSw; (try dsimp only at hSw); go_simp; try with_reducible rfl
      (try simp only [Act.put, List.setIfInBounds_toArray, List.set_cons_zero, List.set_cons_succ])
      refine man_take 3 240 (v := ?_) ⟨_, rfl, rfl⟩ (by as_aux_lemma => kernel_rfl) (by as_aux_lemma => kernel_rfl) (by as_aux_lemma => kernel_rfl) (fun _ _ _ h => h) (by assumption) ?_ ?_
      rotate_left
      · intro oi ho; cases ho; refine ⟨by rfl, ?_⟩; intro w hSw; (try dsimp only at hSw); go_simp; try with_reducible rfl
      (try simp only [Act.put, List.setIfInBounds_toArray, List.set_cons_zero, List.set_cons_succ])
      refine man_run 0 rfl (by as_aux_lemma => kernel_rfl) (fun K hK => ?_)
      go_simp
      refine hK.out _ _ ?_ (fun hHeld => ?_)
      · (try dsimp only); try exact trivial
      clear hK K
      (try simp only [Act.put, List.setIfInBounds_toArray, List.set_cons_zero, List.set_cons_succ])
      refine man_run 1 rfl (by as_aux_lemma => kernel_rfl) (fun K hK => ?_)
      go_simp
      refine (HLF.out [1] 1 1 _ _ rfl (rd_of_blk (SD188.blk 3 rfl)) (by decide) (by decide)).mono ?_
      rintro e wA188 ⟨A188, n188, c188, rfl, hr188, hc188, hx188⟩
      have SE188 := SD188.keep hx188
      go_wp2_with fail
      refine hK.out _ _ ?_ (fun hHeld => ?_)
      · (try dsimp only); try exact trivial
      clear hK K
      (try simp only [Act.put, List.setIfInBounds_toArray, List.set_cons_zero, List.set_cons_succ])
      refine man_run 4 rfl (by as_aux_lemma => kernel_rfl) (fun K hK => ?_)
      go_simp
      refine (HME.out _ _ _ _ _ _ 1 n_x rfl A188 _ n188 c188 399 cm _ hr188 hc188 (HM3.out _ SE188.below) (by decide)).mono ?_
      rintro e wB188 ⟨Ax188, cx188, rfl, hy188⟩
      have SF188 := SE188.keep hy188
      go_wp2_with fail
      refine hK.out _ _ ?_ (fun hHeld => ?_)
      · (try dsimp only); try exact trivial
      clear hK K
      (try simp only [Act.put, List.setIfInBounds_toArray, List.set_cons_zero, List.set_cons_succ])
      refine man_take 5 236 (v := ?_) ⟨_, rfl, rfl⟩ (by as_aux_lemma => kernel_rfl) (by as_aux_lemma => kernel_rfl) (by as_aux_lemma => kernel_rfl) (fun _ _ _ h => h) (by assumption) ?_ ?_
      rotate_left
      · intro oi ho; cases ho; refine ⟨by rfl, ?_⟩; intro w hSw; (try dsimp only at hSw); go_simp; try with_reducible rfl
      (try simp only [Act.put, List.setIfInBounds_toArray, List.set_cons_zero, List.set_cons_succ])
      refine man_take 6 242 (v := ?_) ⟨_, rfl, rfl⟩ (by as_aux_lemma => kernel_rfl) (by as_aux_lemma => kernel_rfl) (by as_aux_lemma => kernel_rfl) (fun _ _ _ h => h) (by assumption) ?_ ?_
      rotate_left
      · intro oi ho; cases ho; refine ⟨by rfl, ?_⟩; intro w hSw; (try dsimp only at hSw); go_simp; try with_reducible rfl
      (try simp only [Act.put, List.setIfInBounds_toArray, List.set_cons_zero, List.set_cons_succ])
      refine man_take 7 243 (v := ?_) ⟨_, rfl, rfl⟩ (by as_aux_lemma => kernel_rfl) (by as_aux_lemma => kernel_rfl) (by as_aux_lemma => kernel_rfl) (fun _ _ _ h => h) (by assumption) ?_ ?_
      rotate_left
      · intro oi ho; cases ho; refine ⟨by rfl, ?_⟩; intro w hSw; (try dsimp only at hSw); go_simp; try with_reducible rfl
      (try simp only [Act.put, List.setIfInBounds_toArray, List.set_cons_zero, List.set_cons_succ])
      refine man_run 8 rfl (by as_aux_lemma => kernel_rfl) (fun K hK => ?_)
      go_simp
      refine hK.out _ _ ?_ (fun hHeld => ?_)
      · (try dsimp only); try exact trivial
      clear hK K
      (try simp only [Act.put, List.setIfInBounds_toArray, List.set_cons_zero, List.set_cons_succ])
      refine man_run 9 rfl (by as_aux_lemma => kernel_rfl) (fun K hK => ?_)
      go_simp
      refine hK.out _ _ ?_ (fun hHeld => ?_)
      · (try dsimp only); try exact trivial
      clear hK K
      (try simp only [Act.put, List.setIfInBounds_toArray, List.set_cons_zero, List.set_cons_succ])
      refine wpAnyH_done (by kernel_rfl) ?_ _
      clear SD188 SE188 hr188 hc188 hx188 hy188
      have S189 := ((((show St w2 [] _ from ⟨SF188.1, by simp⟩)).addBlk (SF188.blk 0 rfl)).addBlk (SF188.blk 1 rfl)).addBlk (SF188.blk 2 rfl)
      simp only [List.nil_append, List.cons_append] at S189
      clear SF188
      have S190 := S189.box #[.int .i64 1] 3
      simp only [List.nil_append, List.cons_append] at S190
      clear S189
      go_wp2_with fail
      refine (HLF.out [1] 1 1 _ _ rfl (rd_of_blk (S190.blk 3 rfl)) (by decide) (by decide)).mono ?_
      rintro e w191 ⟨A191, n191, c191, rfl, hr191, hc191, hb191⟩
      have S192 := S190.keep hb191
      clear S190
      clear hb191
      have S193 := S192.addRd hr191
      simp only [List.nil_append, List.cons_append] at S193
      clear S192
      clear hr191
      go_wp2_with fail
      refine (HBK.out _).mono ?_
      rintro e w194 ⟨rfl, hb194⟩
      have S195 := S193.keep hb194
      clear S193
      clear hb194
      have S196 := S195.box #[.int .u8 2, .slice none 0 0] 59
      simp only [List.nil_append, List.cons_append] at S196
      clear S195
      go_wp2_with fail
      refine (HME.out _ _ _ _ _ _ 0 n_z rfl A191 _ n191 c191 1 1 _ (S196.rd 4 rfl) hc191 (log_one (S196.blk 5 rfl) Rd.nil_) (by decide)).mono ?_
      rintro e w197 ⟨A197, c197, rfl, hb197⟩
      have S198 := S196.keep hb197
      clear S196
      clear hb197
      have S199 := ((((show St w2 [] _ from ⟨S198.1, by simp⟩)).addBlk (S198.blk 0 rfl)).addBlk (S198.blk 1 rfl)).addBlk (S198.blk 2 rfl)
      simp only [List.nil_append, List.cons_append] at S199
      clear S198
      go_wp2_with fail
      refine (HAL.out _).mono ?_
      rintro e w200 ⟨rfl, hb200⟩
      have S201 := S199.keep hb200
      clear S199
      clear hb200
      obtain ⟨f00, f01⟩ := (S201.blk 0 rfl).cell2
      obtain ⟨f10, f11⟩ := (S201.blk 1 rfl).cell2
      obtain ⟨f20, f21⟩ := (S201.blk 2 rfl).cell2
      go_wp2_with fail
      go_ret
      exact ⟨rfl, below_then hbw S201.below⟩
end Go.Proofs.Ytfjdlbilnoojkaa
