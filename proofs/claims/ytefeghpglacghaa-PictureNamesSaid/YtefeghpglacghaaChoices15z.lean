/- picture.Choices gives the choices of all ends and picks. -/
import Derived.Test.YtefeghpglacghaaFirstFz
import Derived.Test.YtefeghpglacghaaMg6z
import Derived.Test.YtefeghpglacghaaLLz
namespace Go.Proofs.Ytefeghpglacghaa
open Go.RowKit

/-- The choices of the first k threads of a side. -/
noncomputable def chLs (a b : Nat) (cs : List Int) (s k : Nat) : List (List Int) := (List.range k).map fun i => chL a b cs s i 16
theorem chLs_succ (a b : Nat) (cs : List Int) (s k : Nat) : chLs a b cs s (k + 1) = chLs a b cs s k ++ [chL a b cs s k 16] := by
  unfold chLs; rw [List.range_succ, List.map_append]; rfl
theorem chLs_len (a b : Nat) (cs : List Int) (s k : Nat) : (chLs a b cs s k).length = k := by simp [chLs]
/-- What picture.Choices returns of any image. -/
def ChoicesI (m : Im) (L0 L1 : List (List Int)) (e : Int) : Prop :=
  (chkI m ≠ 0 ∧ L0 = [] ∧ L1 = [] ∧ e = 8) ∨ (chkI m = 0 ∧ (¬ ∃ F, FitF (N2 m.w.toNat m.h.toNat) (M2 m.w.toNat m.c) F) ∧ L0 = [] ∧ L1 = [] ∧ e = 6) ∨
  (chkI m = 0 ∧ (∃ F, FitF (N2 m.w.toNat m.h.toNat) (M2 m.w.toNat m.c) F) ∧ L0 = chLs m.w.toNat m.h.toNat m.c 0 m.w.toNat ∧ L1 = chLs m.w.toNat m.h.toNat m.c 1 m.h.toNat ∧ e = 0)
theorem ch_given {a b : Nat} {cs : List Int} (hF : ∃ F, FitF (N2 a b) (M2 a cs) F) {k i : Nat} {c : Int} (hc : 0 ≤ c) {r : Bool} {f : Nat → Nat → Int} {R : List Int} (hR : R = List.replicate 64 (-1))
    (h : (r = true ∧ Given (N2 a b) (M2 a cs) (F2 R R) k i c f) ∨ (r = false ∧ NoGive (N2 a b) (M2 a cs) (F2 R R) k i c)) : (r = true ∧ Ch a b cs k i c) ∨ (r = false ∧ ¬ Ch a b cs k i c) := by
  rw [hR, f2_start] at h
  obtain ⟨F0, hF0⟩ := hF
  rcases h with ⟨h1, h2⟩ | ⟨h1, h2⟩
  · exact .inl ⟨h1, choice_fit (m2_sym a cs) hF0 hc h2⟩
  · exact .inr ⟨h1, fun ⟨F, hF, he⟩ => choice_none (m2_sym a cs) hF he h2⟩
theorem Try.infoArr : (Try.prog.info? 91).map (fun i => (i.zero, i.size)) = some (some (.agg #[.slice none 0 0, .slice none 0 0]), 2) := by kernel_rfl
theorem Try.infoL : (Try.prog.info? 22).map (fun i => (i.zero, i.size, i.bytes)) = some (some (.slice none 0 0), 1, 24) := by kernel_rfl

set_option linter.unusedVariables false in
set_option maxHeartbeats 4000000 in
set_option maxRecDepth 100000 in
theorem Choices_any (m : Im) (A : Option Addr) (n c : Nat) (w : World) (hr : Rd w A n (m.c.map (Value.int .i64))) (hn : n ≤ 1048576) :
    Calls Try.prog 13 #[.agg #[.int .i64 m.w, .int .i64 m.h, .slice A n c]] w fun e w' => ∃ (L0 L1 : List (List Int)) (er : Int) (A1 A2 : Option Addr) (c1 c2 : Nat),
      e = .returned (.tuple #[.slice A1 L0.length c1, .slice A2 L1.length c2, .int .i64 er]) ∧ ChoicesI m L0 L1 er ∧
      LL w' w.heap.size 22 3 (.slice A1 L0.length c1) L0.length L0 ∧ LL w' w.heap.size 22 3 (.slice A2 L1.length c2) L1.length L1 ∧ Below w.heap.size w w' := by
  have lb : m.c.length = n := by simpa using hr.len
  have S0 := ((St.start w).addRd hr).box #[.int .i64 m.w, .int .i64 m.h, .slice A n c] 24
  simp only [List.nil_append, List.cons_append] at S0
  obtain ⟨c0, c1, c2⟩ := (S0.blk 1 rfl).cell3
  have HT := Lib.hid (First_any m A n c _ (S0.rd 0 rfl) hn)
  by_cases h0 : chkI m = 0
  · obtain ⟨W, H, cs⟩ := m
    obtain ⟨a, b, h1, h2, ha1, ha, hb1, hb, hl, hf⟩ := chkI_zero h0
    simp only at h1 h2 hl hf lb
    subst h1 h2
    have H0 := Lib.hid h0
    simp only at HT S0 c0 c1 c2 ⊢
    obtain rfl : n = b * a := by omega
    clear lb
    go_enter Try.func13, Try.ntmps13
    go_wp2_with fail
    refine HT.out.mono ?_
    rintro e w1 ⟨p, q, er, A1, A2, k1, k2, rfl, hFI, _, _, hb1⟩
    have S1 := S0.keep hb1
    clear c0 c1 c2 HT S0
    rcases hFI with ⟨hx, _⟩ | ⟨_, hFR⟩
    · exact absurd h0 hx
    clear h0
    rcases hFR with ⟨rfl, _, _, hFit, _⟩ | ⟨rfl, rfl, rfl, hNo⟩
    · have HF := Lib.hid (show ∃ F, FitF (N2 a b) (M2 a cs) F from ⟨_, hFit⟩)
      clear hFit
      have hB1 : Below w1.heap.size w1 (w1.alloc (.cells #[.slice none 0 0, .slice none 0 0] 91)) := (Below.refl _ _).alloc (Nat.le_refl _) _
      have hG1 := Blk.new w1 91 #[.slice none 0 0, .slice none 0 0]
      obtain ⟨zs, hzs, hzl⟩ := zeros_state
      have hE0 := Proofs.enters_of Try.func70 (by kernel_rfl) rfl
      have hE1 := Proofs.enters_of Try.func71 (by kernel_rfl) rfl
      have HE0 := Lib.hid hE0
      have HE1 := Lib.hid hE1
      have HM := Lib.hid (fine_m2 hl hf)
      have hsz1 := S1.size
      obtain ⟨iL, hiL, hzL, hsL, hbL⟩ := info_parts Try.infoL
      obtain ⟨iI, hiI, hzI, hsI, hbI⟩ := info_parts Try.infoI
      obtain ⟨R, hR⟩ : ∃ R, R = List.replicate 64 (-1 : Int) := ⟨_, rfl⟩
      have hR64 : R.length = 64 := by rw [hR]; simp
      have HR := Lib.hid hR
      clear hR hE0 hE1 hl hf
      go_wp2_with fail
      go_loopw [23] (fun kv wr => ∃ (k : Nat) (v0 v1 : Value), k ≤ 2 ∧ kv = .int .i64 k ∧ (k = 0 → v0 = .slice none 0 0) ∧ (k ≤ 1 → v1 = .slice none 0 0) ∧ Blk wr w1.heap.size 91 #[v0, v1] ∧
          LL wr (w1.heap.size + 1) 22 3 v0 (a * min k 1) (chLs a b cs 0 (a * min k 1)) ∧ LL wr (w1.heap.size + 1) 22 3 v1 (b * (k - 1)) (chLs a b cs 1 (b * (k - 1))) ∧ Below w1.heap.size w1 wr)
        (fun kv _ => 2 - (intOf kv).toNat)
      case atStart => exact ⟨0, _, _, by omega, rfl, fun _ => rfl, fun _ => rfl, hG1, LL.nil _ _ _ _, LL.nil _ _ _ _, hB1⟩
      case round =>
        clear hG1 hB1
        obtain ⟨k, v0, v1, hk, rfl, hv0, hv1, hG, hL0, hL1, hB⟩ := hrel
        have hk3 : k = 2 ∨ k = 0 ∨ k = 1 := by omega
        rcases hk3 with rfl | rfl | rfl
        · simp only [show a * min 2 1 = a by simp, show b * (2 - 1) = b by simp] at hL0 hL1
          obtain ⟨A3, k3, rfl⟩ := hL0.shape
          obtain ⟨A4, k4, rfl⟩ := hL1.shape
          have g0 := hG.cell 0
          have g1 := hG.cell 1
          have HN : ChoicesI ⟨a, b, cs⟩ (chLs a b cs 0 a) (chLs a b cs 1 b) 0 := .inr (.inr ⟨H0.out, HF.out, rfl, rfl, rfl⟩)
          have HN2 := Lib.hid HN
          clear HN hv0 hv1
          go_wp2_with fail
          go_region_held3 (fun w' => w'.cell? ⟨w1.heap.size, 0, none⟩ = some (.slice A3 a k3) ∧ w'.cell? ⟨w1.heap.size, 1, none⟩ = some (.slice A4 b k4))
            (first | exact ⟨hG.drew.cell 0, hG.drew.cell 1⟩ | go_keep)
            (fail)
          all_goals
            go_wp2_with fail
            go_ret3
            exact ⟨chLs a b cs 0 a, chLs a b cs 1 b, 0, A3, A4, k3, k4, by rw [chLs_len, chLs_len]; rfl, HN2.out, by rw [chLs_len]; exact (hL0.rebase (by omega)).below (Below.refl _ _).drew, by rw [chLs_len]; exact (hL1.rebase (by omega)).below (Below.refl _ _).drew, (S1.keep hB).below.drew⟩
        · rw [show ((0 : Nat) : Int) = 0 from rfl]
          obtain rfl := hv0 rfl
          obtain rfl := hv1 (by omega)
          have S2 := S1.keep hB
          obtain ⟨c0, c1, c2⟩ := (S2.blk 1 rfl).cell3
          go_wp2_with fail
          refine (start_any a b A (b * a) c wr).mono ?_
          rintro e w2 ⟨mB, rfl, _, _, hb2⟩
          rw [← HR.out]
          obtain ⟨X1, X2, hX1, hX2, hX3⟩ := state_n 0 a b (.func (.func 70) #[] #[.pointer (some ⟨mB, 0, none⟩)]) (.func (.func 71) #[] #[.pointer (some ⟨mB, 0, none⟩)]) R R hR64 (by omega) 0 rfl
          simp only [show N2 a b 0 = a from rfl] at hX3
          have hG2 := hG.keep hb2
          have hB2 := hB.trans (hb2.mono hB.size)
          have hs2 := hB2.size
          have hgl := hG.lt
          have hgl2 := hG2.lt
          clear hL0 hL1
          clear c0 c1 c2 S2 hG hB
          go_wp2_with fail
          clear hX1 hX2 hX3
          go_loopw [32] (fun iv wi => ∃ (i : Nat) (v : Value), i ≤ a ∧ iv = .int .i64 i ∧ Blk wi w1.heap.size 91 #[v, .slice none 0 0] ∧ LL wi w2.heap.size 22 3 v i (chLs a b cs 0 i) ∧ Only [w1.heap.size] w2 wi)
            (fun iv _ => a - (intOf iv).toNat)
          case atStart => exact ⟨0, _, by omega, rfl, hG2, LL.nil _ _ _ _, Only.refl _ _⟩
          case round =>
            obtain ⟨i, v, hi, rfl, hG, hV, hO⟩ := hrel
            obtain ⟨wi, rfl⟩ : ∃ x, x = wr := ⟨wr, rfl⟩
            by_cases hlt : i < a
            · go_wp2_with fail
              go_loopw [11, 35] (fun lv cv wz => ∃ (c' cp : Nat) (Al : Option Addr), c' ≤ 16 ∧ cv = .int .i64 c' ∧ lv = .slice Al (chL a b cs 0 i c').length cp ∧ wz.ownsRow wi.heap.size 3 1 (.slice Al (chL a b cs 0 i c').length cp) (chL a b cs 0 i c').length ((chL a b cs 0 i c').map (Value.int .i64)) ∧ Below wi.heap.size wi wz)
                (fun _ cv _ => 16 - (intOf cv).toNat)
              case atStart => exact ⟨0, 0, none, by omega, rfl, rfl, World.ownsRow_nil _ _ _ _, Below.refl _ _⟩
              case round =>
                obtain ⟨c', cp, Al, hc', rfl, rfl, hown, hbz⟩ := hrel
                obtain ⟨wz, rfl⟩ : ∃ x, x = wr := ⟨wr, rfl⟩
                have hOB : Below w1.heap.size w2 wi := hO.below (by simp) (by omega)
                have hBz : Below w1.heap.size w1 wz := (hB2.trans hOB).trans (hbz.mono (Nat.le_trans hs2 hO.size))
                by_cases hlc : c' < 16
                · have S3 := S1.keep hBz
                  obtain ⟨c0, c1, c2⟩ := (S3.blk 1 rfl).cell3
                  go_wp2_with fail
                  refine (start_any a b A (b * a) c wz).mono ?_
                  rintro e w3 ⟨mC, rfl, hmC, hmC2, hb3⟩
                  rw [← HR.out]
                  have S4 := S3.keep hb3
                  have hown3 := own_below hown hb3
                  have hbz3 := hbz.trans (hb3.mono hbz.size)
                  have hSn : StB (w3.alloc (.cells (stL a b (.func (.func 70) #[] #[.pointer (some ⟨mC, 0, none⟩)]) (.func (.func 71) #[] #[.pointer (some ⟨mC, 0, none⟩)]) R R).toArray 85)) w3.heap.size 85 a b (.func (.func 70) #[] #[.pointer (some ⟨mC, 0, none⟩)]) (.func (.func 71) #[] #[.pointer (some ⟨mC, 0, none⟩)]) R R := Blk.new w3 85 _
                  have hbn : Below w3.heap.size w3 (w3.alloc (.cells (stL a b (.func (.func 70) #[] #[.pointer (some ⟨mC, 0, none⟩)]) (.func (.func 71) #[] #[.pointer (some ⟨mC, 0, none⟩)]) R R).toArray 85)) := (Below.refl _ _).alloc (Nat.le_refl _) _
                  have HC := Lib.hid (give_any a b w3.heap.size cs R R _ _ _ _ 0 i c' (w3.alloc (.cells (stL a b (.func (.func 70) #[] #[.pointer (some ⟨mC, 0, none⟩)]) (.func (.func 71) #[] #[.pointer (some ⟨mC, 0, none⟩)]) R R).toArray 85)) ha hb hR64 hR64 (by omega) hlt (by omega) (by omega) (by rw [HR.out, f2_start]; exact fun k i j _ _ _ h => by simp at h) (by rw [HR.out, f2_start]; exact fun k i _ _ => by simp) HM.out (by simp) hSn HE0.out HE1.out ((start1_gives a b mC A c cs w3 ha hb hmC (S4.rd 0 rfl)).mono (Nat.le_refl _) hbn) ((start2_gives a b mC A c cs w3 ha hb hmC (S4.rd 0 rfl)).mono (Nat.le_refl _) hbn))
                  clear c0 c1 c2 S3 S4 hmC hb3 hown hSn
                  go_wp2_with (first
                    | (refine wpList_store_new rfl 85 (.tmp 13) (.tmp 39) rfl zs _ 85 rfl rfl (size_state hR64 hR64) (by rw [hzl, List.size_toArray, stL_length hR64 hR64]) one_state ?_)
                    | fail)
                  refine HC.out.mono ?_
                  rintro e w4 ⟨r, p2, q2, rfl, _, _, _, hb4, hr4⟩
                  have hor := ch_given HF.out (by omega) HR.out hr4
                  have hbz4 : Below wi.heap.size wi w4 := hbz3.trans ((hbn.trans hb4).mono hbz3.size)
                  have hown4 := own_below hown3 (hbn.trans hb4)
                  have hll := chL_len (a := a) (b := b) (cs := cs) 0 i c'
                  clear HC hbn hb4 hr4 hown3 hbz3 hbz hBz hOB
                  rcases hor with ⟨rfl, hch⟩ | ⟨rfl, hch⟩
                  · have HL := Lib.hid (chL_yes hch)
                    clear hch
                    generalize chL a b cs 0 i c' = l at *
                    have hsz4 := hbz4.size
                    go_wp2_with (at_builtin; go_loud (refine wpList_app _ rfl (.tmp 44) (.tmp 46) 22 rfl wi.heap.size 3 iI (.int .i64 0) 8 Try.underlying22 hiI hzI hsI hbI rfl (by decide) (.slice Al l.length cp) l.length _ rfl (hown4.alloc _) w4.heap.size (.int .i64 c') rfl (new_cell w4 _ _) rfl (by omega) (size_alloc_le hsz4 _) ?_))
                    intro g' cp' w5 hown5 hgr5
                    have hbz5 : Below wi.heap.size wi w5 := (hbz4.alloc hsz4 _).grown hgr5 (size_alloc_le hsz4 _) (fun k hk => (hown4.lt k hk).1)
                    clear hgr5 hown4 hbz4
                    go_wp2_with fail
                    go_roundw
                    case rel => exact ⟨c' + 1, cp', some ⟨g', 0, none⟩, by omega, by go_num, by rw [HL.out, List.length_append]; rfl, by rw [HL.out, List.length_append, List.map_append]; exact hown5, hbz5⟩
                    case measure => simp [intOf]; omega
                  · have HL := Lib.hid (chL_no hch)
                    clear hch
                    go_wp2_with fail
                    go_roundw
                    case rel => exact ⟨c' + 1, cp, Al, by omega, by go_num, by rw [HL.out], by rw [HL.out]; exact hown4, hbz4⟩
                    case measure => simp [intOf]; omega
                · obtain rfl : 16 = c' := by omega
                  have hVz := hV.below hbz
                  have hGz := hG.keep hbz
                  have hOz := hO.trans (Only.of_below hbz)
                  have hszo := hOz.size
                  have hszi := hO.size
                  have hown2 := own_base hown (B := w2.heap.size) hszi
                  have HS := Lib.hid (chLs_succ a b cs 0 i)
                  obtain ⟨g0, g1⟩ : wz.cell? ⟨w1.heap.size, 0, none⟩ = some v ∧ wz.cell? ⟨w1.heap.size, 1, none⟩ = some (.slice none 0 0) := ⟨hGz.cell 0, hGz.cell 1⟩
                  generalize chL a b cs 0 i 16 = l at *
                  obtain ⟨xs, hxo, hpush⟩ := (hVz.below ((Below.refl _ _).alloc (Nat.le_refl _) (.cells #[.slice Al l.length cp] 22))).open (by decide)
                  have hownA := hown2.alloc (.cells #[.slice Al l.length cp] 22)
                  obtain ⟨A5, k5, rfl⟩ := hVz.shape
                  clear hown hown2 hV hG hO hbz hBz hOB hVz
                  go_wp2_with (at_builtin; go_loud (refine wpList_app _ rfl (.tmp 52) (.tmp 54) 31 rfl w2.heap.size 22 iL (.slice none 0 0) 24 Try.underlying31 hiL hzL hsL hbL rfl (by decide) (.slice A5 i k5) i _ rfl hxo wz.heap.size (.slice Al l.length cp) rfl (new_cell wz _ _) rfl (by omega) (size_alloc_le hszo _) ?_))
                  intro g' cp' w5 hown5 hgr5
                  have hV5 := hpush w5 _ Al cp l hownA hown5 hgr5
                  have hrow : ∀ k, (Value.slice A5 i k5).ownBlock = some k → w2.heap.size ≤ k := fun k hk => (hxo.lt k hk).1
                  have hO5 := (hOz.trans (Only.of_below ((Below.refl _ _).alloc (Nat.le_refl _) (.cells #[.slice Al l.length cp] 22)))).grown hgr5 hrow
                  have hG5 := (hGz.alloc (.cells #[.slice Al l.length cp] 22)).grown hgr5 (fun e => by have := hrow _ e.symm; omega)
                  have hfr := hG5.frozen 0
                  have q0 := hG5.cell 0
                  have hG6 := hG5.set_ 0 (.slice (some ⟨g', 0, none⟩) (i + 1) cp')
                  have hV6 := hV5.far (p := ⟨w1.heap.size, 0, none⟩) (by simp; omega) (.slice (some ⟨g', 0, none⟩) (i + 1) cp')
                  have hO6 := hO5.set (p := ⟨w1.heap.size, 0, none⟩) (by simp) (.slice (some ⟨g', 0, none⟩) (i + 1) cp')
                  clear hpush hownA hxo hrow hGz hOz hgr5 hown5 hV5 hO5 hG5 g0 g1
                  go_wp2_with fail
                  go_roundw
                  case rel => exact ⟨i + 1, _, by omega, by go_num, hG6, by rw [HS.out]; exact hV6, hO6⟩
                  case measure => simp [intOf]; omega
            · obtain rfl : i = a := by omega
              clear hG2
              go_wp2_with fail
              go_roundw
              case rel => exact ⟨1, v, .slice none 0 0, by omega, by go_num, by omega, fun _ => rfl, hG, by simpa using hV.rebase (by omega), LL.nil _ _ _ _, hB2.trans (hO.below (by simp) (by omega))⟩
              case measure => simp [intOf]
        · rw [show ((1 : Nat) : Int) = 1 from rfl]
          obtain rfl := hv1 (by omega)
          simp only [show a * min 1 1 = a by simp] at hL0
          have S2 := S1.keep hB
          obtain ⟨c0, c1, c2⟩ := (S2.blk 1 rfl).cell3
          go_wp2_with fail
          refine (start_any a b A (b * a) c wr).mono ?_
          rintro e w2 ⟨mB, rfl, _, _, hb2⟩
          rw [← HR.out]
          obtain ⟨X1, X2, hX1, hX2, hX3⟩ := state_n 1 a b (.func (.func 70) #[] #[.pointer (some ⟨mB, 0, none⟩)]) (.func (.func 71) #[] #[.pointer (some ⟨mB, 0, none⟩)]) R R hR64 (by omega) 1 rfl
          simp only [show N2 a b 1 = b from rfl] at hX3
          have hG2 := hG.keep hb2
          have hB2 := hB.trans (hb2.mono hB.size)
          have hs2 := hB2.size
          have hgl := hG.lt
          have hgl2 := hG2.lt
          have hL2 := hL0.below hb2
          clear hL0 hL1
          clear c0 c1 c2 S2 hG hB
          go_wp2_with fail
          clear hX1 hX2 hX3
          go_loopw [32] (fun iv wi => ∃ (i : Nat) (v : Value), i ≤ b ∧ iv = .int .i64 i ∧ Blk wi w1.heap.size 91 #[v0, v] ∧ LL wi w2.heap.size 22 3 v i (chLs a b cs 1 i) ∧ Only [w1.heap.size] w2 wi)
            (fun iv _ => b - (intOf iv).toNat)
          case atStart => exact ⟨0, _, by omega, rfl, hG2, LL.nil _ _ _ _, Only.refl _ _⟩
          case round =>
            obtain ⟨i, v, hi, rfl, hG, hV, hO⟩ := hrel
            obtain ⟨wi, rfl⟩ : ∃ x, x = wr := ⟨wr, rfl⟩
            by_cases hlt : i < b
            · go_wp2_with fail
              go_loopw [11, 35] (fun lv cv wz => ∃ (c' cp : Nat) (Al : Option Addr), c' ≤ 16 ∧ cv = .int .i64 c' ∧ lv = .slice Al (chL a b cs 1 i c').length cp ∧ wz.ownsRow wi.heap.size 3 1 (.slice Al (chL a b cs 1 i c').length cp) (chL a b cs 1 i c').length ((chL a b cs 1 i c').map (Value.int .i64)) ∧ Below wi.heap.size wi wz)
                (fun _ cv _ => 16 - (intOf cv).toNat)
              case atStart => exact ⟨0, 0, none, by omega, rfl, rfl, World.ownsRow_nil _ _ _ _, Below.refl _ _⟩
              case round =>
                obtain ⟨c', cp, Al, hc', rfl, rfl, hown, hbz⟩ := hrel
                obtain ⟨wz, rfl⟩ : ∃ x, x = wr := ⟨wr, rfl⟩
                have hOB : Below w1.heap.size w2 wi := hO.below (by simp) (by omega)
                have hBz : Below w1.heap.size w1 wz := (hB2.trans hOB).trans (hbz.mono (Nat.le_trans hs2 hO.size))
                by_cases hlc : c' < 16
                · have S3 := S1.keep hBz
                  obtain ⟨c0, c1, c2⟩ := (S3.blk 1 rfl).cell3
                  go_wp2_with fail
                  refine (start_any a b A (b * a) c wz).mono ?_
                  rintro e w3 ⟨mC, rfl, hmC, hmC2, hb3⟩
                  rw [← HR.out]
                  have S4 := S3.keep hb3
                  have hown3 := own_below hown hb3
                  have hbz3 := hbz.trans (hb3.mono hbz.size)
                  have hSn : StB (w3.alloc (.cells (stL a b (.func (.func 70) #[] #[.pointer (some ⟨mC, 0, none⟩)]) (.func (.func 71) #[] #[.pointer (some ⟨mC, 0, none⟩)]) R R).toArray 85)) w3.heap.size 85 a b (.func (.func 70) #[] #[.pointer (some ⟨mC, 0, none⟩)]) (.func (.func 71) #[] #[.pointer (some ⟨mC, 0, none⟩)]) R R := Blk.new w3 85 _
                  have hbn : Below w3.heap.size w3 (w3.alloc (.cells (stL a b (.func (.func 70) #[] #[.pointer (some ⟨mC, 0, none⟩)]) (.func (.func 71) #[] #[.pointer (some ⟨mC, 0, none⟩)]) R R).toArray 85)) := (Below.refl _ _).alloc (Nat.le_refl _) _
                  have HC := Lib.hid (give_any a b w3.heap.size cs R R _ _ _ _ 1 i c' (w3.alloc (.cells (stL a b (.func (.func 70) #[] #[.pointer (some ⟨mC, 0, none⟩)]) (.func (.func 71) #[] #[.pointer (some ⟨mC, 0, none⟩)]) R R).toArray 85)) ha hb hR64 hR64 (by omega) hlt (by omega) (by omega) (by rw [HR.out, f2_start]; exact fun k i j _ _ _ h => by simp at h) (by rw [HR.out, f2_start]; exact fun k i _ _ => by simp) HM.out (by simp) hSn HE0.out HE1.out ((start1_gives a b mC A c cs w3 ha hb hmC (S4.rd 0 rfl)).mono (Nat.le_refl _) hbn) ((start2_gives a b mC A c cs w3 ha hb hmC (S4.rd 0 rfl)).mono (Nat.le_refl _) hbn))
                  clear c0 c1 c2 S3 S4 hmC hb3 hown hSn
                  go_wp2_with (first
                    | (refine wpList_store_new rfl 85 (.tmp 13) (.tmp 39) rfl zs _ 85 rfl rfl (size_state hR64 hR64) (by rw [hzl, List.size_toArray, stL_length hR64 hR64]) one_state ?_)
                    | fail)
                  refine HC.out.mono ?_
                  rintro e w4 ⟨r, p2, q2, rfl, _, _, _, hb4, hr4⟩
                  have hor := ch_given HF.out (by omega) HR.out hr4
                  have hbz4 : Below wi.heap.size wi w4 := hbz3.trans ((hbn.trans hb4).mono hbz3.size)
                  have hown4 := own_below hown3 (hbn.trans hb4)
                  have hll := chL_len (a := a) (b := b) (cs := cs) 1 i c'
                  clear HC hbn hb4 hr4 hown3 hbz3 hbz hBz hOB
                  rcases hor with ⟨rfl, hch⟩ | ⟨rfl, hch⟩
                  · have HL := Lib.hid (chL_yes hch)
                    clear hch
                    generalize chL a b cs 1 i c' = l at *
                    have hsz4 := hbz4.size
                    go_wp2_with (at_builtin; go_loud (refine wpList_app _ rfl (.tmp 44) (.tmp 46) 22 rfl wi.heap.size 3 iI (.int .i64 0) 8 Try.underlying22 hiI hzI hsI hbI rfl (by decide) (.slice Al l.length cp) l.length _ rfl (hown4.alloc _) w4.heap.size (.int .i64 c') rfl (new_cell w4 _ _) rfl (by omega) (size_alloc_le hsz4 _) ?_))
                    intro g' cp' w5 hown5 hgr5
                    have hbz5 : Below wi.heap.size wi w5 := (hbz4.alloc hsz4 _).grown hgr5 (size_alloc_le hsz4 _) (fun k hk => (hown4.lt k hk).1)
                    clear hgr5 hown4 hbz4
                    go_wp2_with fail
                    go_roundw
                    case rel => exact ⟨c' + 1, cp', some ⟨g', 0, none⟩, by omega, by go_num, by rw [HL.out, List.length_append]; rfl, by rw [HL.out, List.length_append, List.map_append]; exact hown5, hbz5⟩
                    case measure => simp [intOf]; omega
                  · have HL := Lib.hid (chL_no hch)
                    clear hch
                    go_wp2_with fail
                    go_roundw
                    case rel => exact ⟨c' + 1, cp, Al, by omega, by go_num, by rw [HL.out], by rw [HL.out]; exact hown4, hbz4⟩
                    case measure => simp [intOf]; omega
                · obtain rfl : 16 = c' := by omega
                  have hVz := hV.below hbz
                  have hGz := hG.keep hbz
                  have hOz := hO.trans (Only.of_below hbz)
                  have hszo := hOz.size
                  have hszi := hO.size
                  have hown2 := own_base hown (B := w2.heap.size) hszi
                  have HS := Lib.hid (chLs_succ a b cs 1 i)
                  obtain ⟨g0, g1⟩ : wz.cell? ⟨w1.heap.size, 0, none⟩ = some v0 ∧ wz.cell? ⟨w1.heap.size, 1, none⟩ = some v := ⟨hGz.cell 0, hGz.cell 1⟩
                  generalize chL a b cs 1 i 16 = l at *
                  obtain ⟨xs, hxo, hpush⟩ := (hVz.below ((Below.refl _ _).alloc (Nat.le_refl _) (.cells #[.slice Al l.length cp] 22))).open (by decide)
                  have hownA := hown2.alloc (.cells #[.slice Al l.length cp] 22)
                  obtain ⟨A5, k5, rfl⟩ := hVz.shape
                  clear hown hown2 hV hG hO hbz hBz hOB hVz
                  go_wp2_with (at_builtin; go_loud (refine wpList_app _ rfl (.tmp 52) (.tmp 54) 31 rfl w2.heap.size 22 iL (.slice none 0 0) 24 Try.underlying31 hiL hzL hsL hbL rfl (by decide) (.slice A5 i k5) i _ rfl hxo wz.heap.size (.slice Al l.length cp) rfl (new_cell wz _ _) rfl (by omega) (size_alloc_le hszo _) ?_))
                  intro g' cp' w5 hown5 hgr5
                  have hV5 := hpush w5 _ Al cp l hownA hown5 hgr5
                  have hrow : ∀ k, (Value.slice A5 i k5).ownBlock = some k → w2.heap.size ≤ k := fun k hk => (hxo.lt k hk).1
                  have hO5 := (hOz.trans (Only.of_below ((Below.refl _ _).alloc (Nat.le_refl _) (.cells #[.slice Al l.length cp] 22)))).grown hgr5 hrow
                  have hG5 := (hGz.alloc (.cells #[.slice Al l.length cp] 22)).grown hgr5 (fun e => by have := hrow _ e.symm; omega)
                  have hfr := hG5.frozen 1
                  have q0 := hG5.cell 1
                  have hG6 := hG5.set_ 1 (.slice (some ⟨g', 0, none⟩) (i + 1) cp')
                  have hV6 := hV5.far (p := ⟨w1.heap.size, 1, none⟩) (by simp; omega) (.slice (some ⟨g', 0, none⟩) (i + 1) cp')
                  have hO6 := hO5.set (p := ⟨w1.heap.size, 1, none⟩) (by simp) (.slice (some ⟨g', 0, none⟩) (i + 1) cp')
                  clear hpush hownA hxo hrow hGz hOz hgr5 hown5 hV5 hO5 hG5 g0 g1
                  go_wp2_with fail
                  go_roundw
                  case rel => exact ⟨i + 1, _, by omega, by go_num, hG6, by rw [HS.out]; exact hV6, hO6⟩
                  case measure => simp [intOf]; omega
            · obtain rfl : i = b := by omega
              have hG2' := Lib.hid hG2
              clear hG2
              go_wp2_with fail
              go_roundw
              case rel => exact ⟨2, v0, v, by omega, by go_num, by omega, by omega, hG, by simpa using hL2.only hO (fun g hg => by rw [List.mem_singleton] at hg; subst hg; exact ⟨_, _, hG2'.out, by decide, by decide⟩), by simpa using hV.rebase (by omega), hB2.trans (hO.below (by simp) (by omega))⟩
              case measure => simp [intOf]
    · have HN : ChoicesI ⟨a, b, cs⟩ [] [] 6 := .inr (.inl ⟨H0.out, hNo, rfl, rfl, rfl⟩)
      have HN2 := Lib.hid HN
      clear HN hNo
      go_wp2_with fail
      go_ret3
      exact ⟨[], [], 6, none, none, 0, 0, rfl, HN2.out, LL.nil _ _ _ _, LL.nil _ _ _ _, S1.below⟩
  · have HN : ChoicesI m [] [] 8 := .inl ⟨h0, rfl, rfl, rfl⟩
    have HN2 := Lib.hid HN
    have HX := Lib.hid h0
    clear HN h0 lb
    go_enter Try.func13, Try.ntmps13
    go_wp2_with fail
    refine HT.out.mono ?_
    rintro e w1 ⟨p, q, er, A1, A2, k1, k2, rfl, hFI, _, _, hb1⟩
    have S1 := S0.keep hb1
    clear c0 c1 c2 HT
    rcases hFI with ⟨_, rfl, rfl, rfl⟩ | ⟨hx, _⟩
    · go_wp2_with fail
      go_ret3
      exact ⟨[], [], 8, none, none, 0, 0, rfl, HN2.out, LL.nil _ _ _ _, LL.nil _ _ _ _, S1.below⟩
    · exact absurd hx HX.out
end Go.Proofs.Ytefeghpglacghaa
