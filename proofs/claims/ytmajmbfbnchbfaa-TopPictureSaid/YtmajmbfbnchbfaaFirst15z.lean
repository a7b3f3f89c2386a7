/- picture's state.first gives all threads their first colours, or none fit. -/
import Derived.Test.YtmajmbfbnchbfaaGive15z
import Derived.Test.YtmajmbfbnchbfaaMg12z
namespace Go.Proofs.Ytmajmbfbnchbfaa
open Go.RowKit

theorem GivesA.mono {f : FuncId} {caps : Array Value} {a b : Nat} {F : Nat → Nat → Int} {B B' : Nat} {w w' : World} (h : GivesA f caps a b F B w) (hB : B ≤ B') (hb : Below B w w') : GivesA f caps a b F B' w' :=
  fun w2 x y h2 hx hy => h w2 x y (hb.trans (h2.mono hB)) hx hy
theorem f2_start : F2 (List.replicate 64 (-1)) (List.replicate 64 (-1)) = fun _ _ => -1 := by
  have e : ∀ i, (List.replicate 64 (-1 : Int)).getD i (-1) = -1 := fun i => by
    rw [List.getD_eq_getElem?_getD, List.getElem?_replicate]
    split <;> rfl
  funext k i
  unfold F2
  split
  · exact e i
  · split
    · exact e i
    · rfl

set_option linter.unusedVariables false in
set_option maxHeartbeats 4000000 in
set_option maxRecDepth 100000 in
theorem first_any (a b sB B : Nat) (cs : List Int) (f0 f1 : FuncId) (caps0 caps1 : Array Value) (w : World) (ha : a ≤ 64) (hb : b ≤ 64) (hBs : B ≤ sB) (R : List Int) (hRR : R = List.replicate 64 (-1))
    (hm : ∀ k i j, k < 2 → i < N2 a b k → j < N2 a b (1 - k) → 0 ≤ M2 a cs k i j ∧ M2 a cs k i j ≤ 15)
    (hS : StB w sB 77 a b (.func (.func f0) #[] caps0) (.func (.func f1) #[] caps1) R R)
    (hE0 : ∀ (args : Array Value) (w : World), (callFunc f0 args).run Try.prog w = .ok (.enter f0 args) w) (hE1 : ∀ (args : Array Value) (w : World), (callFunc f1 args).run Try.prog w = .ok (.enter f1 args) w)
    (hA0 : GivesA f0 caps0 a b (M2 a cs 0) B w) (hA1 : GivesA f1 caps1 b a (M2 a cs 1) B w) :
    Calls Try.prog 34 #[.pointer (some ⟨sB, 0, none⟩)] w fun e w' => ∃ (r : Bool) (p' q' : List Int), e = .returned (.bool r) ∧ StB w' sB 77 a b (.func (.func f0) #[] caps0) (.func (.func f1) #[] caps1) p' q' ∧ p'.length = 64 ∧ q'.length = 64 ∧ Below sB w w' ∧
      ((r = true ∧ FInv (N2 a b) (M2 a cs) 2 0 (F2 p' q')) ∨ (r = false ∧ ¬ ∃ F, FitF (N2 a b) (M2 a cs) F)) := by
  obtain ⟨zs, hzs, hzl⟩ := zeros_state
  have hsB : sB < w.heap.size := Blk.lt hS
  have HM := Lib.hid hm
  have H0 := Lib.hid hA0
  have H1 := Lib.hid hA1
  have HE0 := Lib.hid hE0
  have HE1 := Lib.hid hE1
  have HF0 : FInv (N2 a b) (M2 a cs) 0 0 (F2 R R) := by rw [hRR, f2_start]; exact FInv.start
  have hR : R.length = 64 := by rw [hRR]; simp
  clear hm hA0 hA1 hRR
  go_enter Try.func34, Try.ntmps34
  go_wp2_with fail
  go_loopw [8] (fun v wr => ∃ (k : Nat) (p' q' : List Int), k ≤ 2 ∧ v = .int .i64 k ∧ StB wr sB 77 a b (.func (.func f0) #[] caps0) (.func (.func f1) #[] caps1) p' q' ∧ p'.length = 64 ∧ q'.length = 64 ∧ Below sB w wr ∧ FInv (N2 a b) (M2 a cs) k 0 (F2 p' q'))
    (fun v _ => 2 - (intOf v).toNat)
  case atStart => exact ⟨0, R, R, by omega, rfl, hS, hR, hR, Below.refl _ _, HF0⟩
  case round =>
    clear hS HF0
    obtain ⟨k, p', q', hk, rfl, hS, hp', hq', hB, HF⟩ := hrel
    have hk3 : k = 2 ∨ k = 0 ∨ k = 1 := by omega
    rcases hk3 with rfl | rfl | rfl
    · go_wp2_with fail
      go_ret
      exact ⟨true, p', q', rfl, hS, hp', hq', hB, .inl ⟨rfl, HF⟩⟩
    · rw [show ((0 : Nat) : Int) = 0 from rfl]
      have s0 := StB.cell hS 0 (stL_0)
      go_wp2_with fail
      go_loopw [18] (fun v wr => ∃ (i : Nat) (p' q' : List Int), i ≤ a ∧ v = .int .i64 i ∧ StB wr sB 77 a b (.func (.func f0) #[] caps0) (.func (.func f1) #[] caps1) p' q' ∧ p'.length = 64 ∧ q'.length = 64 ∧ Below sB w wr ∧ FInv (N2 a b) (M2 a cs) 0 i (F2 p' q'))
        (fun v _ => a - (intOf v).toNat)
      case atStart => exact ⟨0, p', q', by omega, rfl, hS, hp', hq', hB, HF⟩
      case round =>
        clear hS HF hp' hq' hB s0 p' q'
        obtain ⟨i, p', q', hi, rfl, hS, hp', hq', hB, HF⟩ := hrel
        by_cases hlt : i < a
        · have hi64 : i < 64 := by omega
          have s1 := StB.cell hS (2 + i) (stL_p hp' hi64)
          have hx : F2 p' q' 0 i = p'.getD i (-1) := rfl
          obtain ⟨x, hxe⟩ : ∃ x, p'.getD i (-1) = x := ⟨_, rfl⟩
          rw [hxe] at s1 hx
          have HX := Lib.hid hx
          clear hxe hx
          obtain ⟨fd0, hfd⟩ : ∃ d : Bool, decide (0 ≤ x) = d := ⟨_, rfl⟩
          have HFD := Lib.hid hfd
          go_wp2_with fail
          try rw [hfd]
          go_loopw [5, 6] (fun fv cv wr => ∃ (fd : Bool) (c : Nat) (p'' q'' : List Int), c ≤ 16 ∧ fv = .bool fd ∧ cv = .int .i64 c ∧ StB wr sB 77 a b (.func (.func f0) #[] caps0) (.func (.func f1) #[] caps1) p'' q'' ∧ p''.length = 64 ∧ q''.length = 64 ∧ Below sB w wr ∧
              ((fd = true ∧ FInv (N2 a b) (M2 a cs) 0 (i + 1) (F2 p'' q'')) ∨ (fd = false ∧ p'' = p' ∧ q'' = q' ∧ F2 p' q' 0 i < 0 ∧ ∀ c', 0 ≤ c' → c' < (c : Int) → NoGive (N2 a b) (M2 a cs) (F2 p' q') 0 i c')))
            (fun _ cv _ => 17 - (intOf cv).toNat)
          case atStart =>
            refine ⟨fd0, 0, p', q', by omega, ?_, rfl, hS, hp', hq', hB, ?_⟩
            · first | rfl | (rw [← HFD.out]) | (simp [← HFD.out])
            · rcases Bool.eq_false_or_eq_true fd0 with e | e
              · have h0 : 0 ≤ x := by have := HFD.out; rw [e] at this; simpa using this
                exact .inl ⟨e, HF.known (m2_sym a cs) (by omega) hlt (by rw [HX.out]; exact h0)⟩
              · exact .inr ⟨e, rfl, rfl, by have := HFD.out; rw [e] at this; rw [HX.out]; simpa using this, fun c' h1 h2 => by omega⟩
          case round =>
            have HFk := Lib.hid HF
            clear hS HF hB s1 hfd
            obtain ⟨fd, c, p'', q'', hc, rfl, rfl, hS, hp'', hq'', hB, hor⟩ := hrel
            rcases hor with ⟨rfl, HF2⟩ | ⟨rfl, rfl, rfl, hneg, hno⟩
            · by_cases hc15 : c ≤ 15
              · go_wp2_with fail
                go_roundw
                case rel => exact ⟨i + 1, p'', q'', by omega, by go_num, hS, hp'', hq'', hB, HF2⟩
                case measure => simp [intOf]; omega
              · go_wp2_with fail
                go_roundw
                case rel => exact ⟨i + 1, p'', q'', by omega, by go_num, hS, hp'', hq'', hB, HF2⟩
                case measure => simp [intOf]; omega
            · by_cases hc15 : c ≤ 15
              · have hlw := Blk.lt hS
                have hSn : StB (wr.alloc (.cells (stL a b (.func (.func f0) #[] caps0) (.func (.func f1) #[] caps1) p'' q'').toArray 77)) wr.heap.size 77 a b (.func (.func f0) #[] caps0) (.func (.func f1) #[] caps1) p'' q'' := Blk.new wr 77 (stL a b (.func (.func f0) #[] caps0) (.func (.func f1) #[] caps1) p'' q'').toArray
                have hS2 : StB (wr.alloc (.cells (stL a b (.func (.func f0) #[] caps0) (.func (.func f1) #[] caps1) p'' q'').toArray 77)) sB 77 a b (.func (.func f0) #[] caps0) (.func (.func f1) #[] caps1) p'' q'' := Blk.alloc hS (.cells (stL a b (.func (.func f0) #[] caps0) (.func (.func f1) #[] caps1) p'' q'').toArray 77)
                have hB2 : Below sB w (wr.alloc (.cells (stL a b (.func (.func f0) #[] caps0) (.func (.func f1) #[] caps1) p'' q'').toArray 77)) := hB.alloc (by omega) _
                have HC := Lib.hid (give_any a b wr.heap.size cs p'' q'' f0 f1 caps0 caps1 0 i c (wr.alloc (.cells (stL a b (.func (.func f0) #[] caps0) (.func (.func f1) #[] caps1) p'' q'').toArray 77)) ha hb hp'' hq'' (by omega) hlt (by omega) (by omega) HFk.out.clo HFk.out.val HM.out (by simp) hSn HE0.out HE1.out (H0.out.mono (by omega) (hB2.mono hBs)) (H1.out.mono (by omega) (hB2.mono hBs)))
                have HN := Lib.hid hno
                have HG := Lib.hid hneg
                clear hno hneg hSn
                go_wp2_with (first
                  | (refine wpList_load_row rfl 77 (.tmp 39) rfl sB rfl 77 _ (0, 0) _ hS Try.underlying77 rfl (size_state hp'' hq'') ?_)
                  | (refine wpList_store_new rfl 77 (.tmp 7) (.tmp 40) rfl zs _ 77 rfl rfl (size_state hp'' hq'') (by rw [hzl, List.size_toArray, stL_length hp'' hq'']) one_state ?_)
                  | fail)
                refine HC.out.mono ?_
                rintro e w2 ⟨r, p2, q2, rfl, hS3, hp2, hq2, hB3, hr⟩
                have hS4 := Blk.below hS2 hB3 hlw
                have hB4 := hB2.trans (hB3.mono (by omega))
                have hsz := hB3.size
                rw [size_alloc1] at hsz
                clear HC hS hS2 hB hB2 hB3
                rcases hr with ⟨rfl, hG⟩ | ⟨rfl, hG⟩
                · have HG2 := Lib.hid (HFk.out.given (m2_sym a cs) (by omega) hlt HG.out (by omega) hG HN.out)
                  go_wp2_with (first
                    | (refine wpList_load_row rfl 77 (.tmp 7) rfl wr.heap.size rfl 77 _ (0, 0) _ hS3 Try.underlying77 rfl (size_state hp2 hq2) ?_)
                    | (refine wpList_store_all rfl 77 (.tmp 48) (.tmp 47) rfl sB _ rfl rfl 77 _ hS4 (size_state hp2 hq2) (by rw [List.size_toArray, List.size_toArray, stL_length hp2 hq2, stL_length hp'' hq'']) one_state ?_; intro w5 hS5 hgr5)
                    | fail)
                  go_roundw
                  case rel => exact ⟨true, c + 1, p2, q2, by omega, rfl, by go_num, hS5, hp2, hq2, hB4.grown hgr5 (by omega) (fun k hk => by injection hk with hk; omega), .inl ⟨rfl, HG2.out⟩⟩
                  case measure => simp [intOf]; omega
                · go_wp2_with fail
                  go_roundw
                  case rel => exact ⟨false, c + 1, p'', q'', by omega, rfl, by go_num, hS4, hp'', hq'', hB4, .inr ⟨rfl, rfl, rfl, HG.out, fun c' h1 h2 => by
                    by_cases hcc : c' = (c : Int)
                    · rw [hcc]; exact hG
                    · exact HN.out c' h1 (by omega)⟩⟩
                  case measure => simp [intOf]; omega
              · obtain rfl : c = 16 := by omega
                go_wp2_with fail
                go_ret
                exact ⟨false, p'', q'', rfl, hS, hp'', hq'', hB, .inr ⟨rfl, HFk.out.fail (m2_sym a cs) (by omega) hlt hneg (fun c' h1 h2 => hno c' h1 (by omega))⟩⟩
        · obtain rfl : a = i := by omega
          go_wp2_with fail
          go_roundw
          case rel => exact ⟨1, p', q', by omega, by go_num, hS, hp', hq', hB, HF.row⟩
          case measure => simp [intOf]
    · rw [show ((1 : Nat) : Int) = 1 from rfl]
      have s0 := StB.cell hS 66 (stL_66 hp')
      go_wp2_with fail
      go_loopw [18] (fun v wr => ∃ (i : Nat) (p' q' : List Int), i ≤ b ∧ v = .int .i64 i ∧ StB wr sB 77 a b (.func (.func f0) #[] caps0) (.func (.func f1) #[] caps1) p' q' ∧ p'.length = 64 ∧ q'.length = 64 ∧ Below sB w wr ∧ FInv (N2 a b) (M2 a cs) 1 i (F2 p' q'))
        (fun v _ => b - (intOf v).toNat)
      case atStart => exact ⟨0, p', q', by omega, rfl, hS, hp', hq', hB, HF⟩
      case round =>
        clear hS HF hp' hq' hB s0 p' q'
        obtain ⟨i, p', q', hi, rfl, hS, hp', hq', hB, HF⟩ := hrel
        by_cases hlt : i < b
        · have hi64 : i < 64 := by omega
          have s1 := StB.cell hS (68 + i) (stL_q hp' hq' hi64)
          have hx : F2 p' q' 1 i = q'.getD i (-1) := rfl
          obtain ⟨x, hxe⟩ : ∃ x, q'.getD i (-1) = x := ⟨_, rfl⟩
          rw [hxe] at s1 hx
          have HX := Lib.hid hx
          clear hxe hx
          obtain ⟨fd0, hfd⟩ : ∃ d : Bool, decide (0 ≤ x) = d := ⟨_, rfl⟩
          have HFD := Lib.hid hfd
          go_wp2_with fail
          try rw [hfd]
          go_loopw [5, 6] (fun fv cv wr => ∃ (fd : Bool) (c : Nat) (p'' q'' : List Int), c ≤ 16 ∧ fv = .bool fd ∧ cv = .int .i64 c ∧ StB wr sB 77 a b (.func (.func f0) #[] caps0) (.func (.func f1) #[] caps1) p'' q'' ∧ p''.length = 64 ∧ q''.length = 64 ∧ Below sB w wr ∧
              ((fd = true ∧ FInv (N2 a b) (M2 a cs) 1 (i + 1) (F2 p'' q'')) ∨ (fd = false ∧ p'' = p' ∧ q'' = q' ∧ F2 p' q' 1 i < 0 ∧ ∀ c', 0 ≤ c' → c' < (c : Int) → NoGive (N2 a b) (M2 a cs) (F2 p' q') 1 i c')))
            (fun _ cv _ => 17 - (intOf cv).toNat)
          case atStart =>
            refine ⟨fd0, 0, p', q', by omega, ?_, rfl, hS, hp', hq', hB, ?_⟩
            · first | rfl | (rw [← HFD.out]) | (simp [← HFD.out])
            · rcases Bool.eq_false_or_eq_true fd0 with e | e
              · have h0 : 0 ≤ x := by have := HFD.out; rw [e] at this; simpa using this
                exact .inl ⟨e, HF.known (m2_sym a cs) (by omega) hlt (by rw [HX.out]; exact h0)⟩
              · exact .inr ⟨e, rfl, rfl, by have := HFD.out; rw [e] at this; rw [HX.out]; simpa using this, fun c' h1 h2 => by omega⟩
          case round =>
            have HFk := Lib.hid HF
            clear hS HF hB s1 hfd
            obtain ⟨fd, c, p'', q'', hc, rfl, rfl, hS, hp'', hq'', hB, hor⟩ := hrel
            rcases hor with ⟨rfl, HF2⟩ | ⟨rfl, rfl, rfl, hneg, hno⟩
            · by_cases hc15 : c ≤ 15
              · go_wp2_with fail
                go_roundw
                case rel => exact ⟨i + 1, p'', q'', by omega, by go_num, hS, hp'', hq'', hB, HF2⟩
                case measure => simp [intOf]; omega
              · go_wp2_with fail
                go_roundw
                case rel => exact ⟨i + 1, p'', q'', by omega, by go_num, hS, hp'', hq'', hB, HF2⟩
                case measure => simp [intOf]; omega
            · by_cases hc15 : c ≤ 15
              · have hlw := Blk.lt hS
                have hSn : StB (wr.alloc (.cells (stL a b (.func (.func f0) #[] caps0) (.func (.func f1) #[] caps1) p'' q'').toArray 77)) wr.heap.size 77 a b (.func (.func f0) #[] caps0) (.func (.func f1) #[] caps1) p'' q'' := Blk.new wr 77 (stL a b (.func (.func f0) #[] caps0) (.func (.func f1) #[] caps1) p'' q'').toArray
                have hS2 : StB (wr.alloc (.cells (stL a b (.func (.func f0) #[] caps0) (.func (.func f1) #[] caps1) p'' q'').toArray 77)) sB 77 a b (.func (.func f0) #[] caps0) (.func (.func f1) #[] caps1) p'' q'' := Blk.alloc hS (.cells (stL a b (.func (.func f0) #[] caps0) (.func (.func f1) #[] caps1) p'' q'').toArray 77)
                have hB2 : Below sB w (wr.alloc (.cells (stL a b (.func (.func f0) #[] caps0) (.func (.func f1) #[] caps1) p'' q'').toArray 77)) := hB.alloc (by omega) _
                have HC := Lib.hid (give_any a b wr.heap.size cs p'' q'' f0 f1 caps0 caps1 1 i c (wr.alloc (.cells (stL a b (.func (.func f0) #[] caps0) (.func (.func f1) #[] caps1) p'' q'').toArray 77)) ha hb hp'' hq'' (by omega) hlt (by omega) (by omega) HFk.out.clo HFk.out.val HM.out (by simp) hSn HE0.out HE1.out (H0.out.mono (by omega) (hB2.mono hBs)) (H1.out.mono (by omega) (hB2.mono hBs)))
                have HN := Lib.hid hno
                have HG := Lib.hid hneg
                clear hno hneg hSn
                go_wp2_with (first
                  | (refine wpList_load_row rfl 77 (.tmp 39) rfl sB rfl 77 _ (0, 0) _ hS Try.underlying77 rfl (size_state hp'' hq'') ?_)
                  | (refine wpList_store_new rfl 77 (.tmp 7) (.tmp 40) rfl zs _ 77 rfl rfl (size_state hp'' hq'') (by rw [hzl, List.size_toArray, stL_length hp'' hq'']) one_state ?_)
                  | fail)
                refine HC.out.mono ?_
                rintro e w2 ⟨r, p2, q2, rfl, hS3, hp2, hq2, hB3, hr⟩
                have hS4 := Blk.below hS2 hB3 hlw
                have hB4 := hB2.trans (hB3.mono (by omega))
                have hsz := hB3.size
                rw [size_alloc1] at hsz
                clear HC hS hS2 hB hB2 hB3
                rcases hr with ⟨rfl, hG⟩ | ⟨rfl, hG⟩
                · have HG2 := Lib.hid (HFk.out.given (m2_sym a cs) (by omega) hlt HG.out (by omega) hG HN.out)
                  go_wp2_with (first
                    | (refine wpList_load_row rfl 77 (.tmp 7) rfl wr.heap.size rfl 77 _ (0, 0) _ hS3 Try.underlying77 rfl (size_state hp2 hq2) ?_)
                    | (refine wpList_store_all rfl 77 (.tmp 48) (.tmp 47) rfl sB _ rfl rfl 77 _ hS4 (size_state hp2 hq2) (by rw [List.size_toArray, List.size_toArray, stL_length hp2 hq2, stL_length hp'' hq'']) one_state ?_; intro w5 hS5 hgr5)
                    | fail)
                  go_roundw
                  case rel => exact ⟨true, c + 1, p2, q2, by omega, rfl, by go_num, hS5, hp2, hq2, hB4.grown hgr5 (by omega) (fun k hk => by injection hk with hk; omega), .inl ⟨rfl, HG2.out⟩⟩
                  case measure => simp [intOf]; omega
                · go_wp2_with fail
                  go_roundw
                  case rel => exact ⟨false, c + 1, p'', q'', by omega, rfl, by go_num, hS4, hp'', hq'', hB4, .inr ⟨rfl, rfl, rfl, HG.out, fun c' h1 h2 => by
                    by_cases hcc : c' = (c : Int)
                    · rw [hcc]; exact hG
                    · exact HN.out c' h1 (by omega)⟩⟩
                  case measure => simp [intOf]; omega
              · obtain rfl : c = 16 := by omega
                go_wp2_with fail
                go_ret
                exact ⟨false, p'', q'', rfl, hS, hp'', hq'', hB, .inr ⟨rfl, HFk.out.fail (m2_sym a cs) (by omega) hlt hneg (fun c' h1 h2 => hno c' h1 (by omega))⟩⟩
        · obtain rfl : b = i := by omega
          go_wp2_with fail
          go_roundw
          case rel => exact ⟨2, p', q', by omega, by go_num, hS, hp', hq', hB, HF.row⟩
          case measure => simp [intOf]
end Go.Proofs.Ytmajmbfbnchbfaa
