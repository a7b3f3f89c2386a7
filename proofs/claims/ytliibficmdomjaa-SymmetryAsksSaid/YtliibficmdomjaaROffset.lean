/- raddleref06.Offset: the step from one plane to another one. -/
import Derived.Test.YtliibficmdomjaaOffP
import Derived.Test.YtliibficmdomjaaMeets
import Derived.Test.YtliibficmdomjaaRBoth
namespace Go.Proofs.Ytliibficmdomjaa
open Go.RowKit

set_option maxHeartbeats 4000000 in
theorem roffset_any (g g' : Gd) (A A' : Option Addr) (n c n' c' : Nat) (w : World) (hr : Rd w A n (g.bits.map Value.bool)) (hr' : Rd w A' n' (g'.bits.map Value.bool)) :
    Calls Try.prog 40 #[.agg #[.int .i64 g.w, .int .i64 g.h, .slice A n c], .agg #[.int .i64 g'.w, .int .i64 g'.h, .slice A' n' c']] w (OffRet g g' w) := by
  have lb : g.bits.length = n := by simpa using hr.len
  have lb' : g'.bits.length = n' := by simpa using hr'.len
  have HB := Lib.hid (fun W => rboth_any g g' A A' n c n' c' W lb lb')
  have S0 := (((((St.start w).addRd hr).addRd hr').box #[.int .i64 g.w, .int .i64 g.h, .slice A n c] 24).box #[.int .i64 g'.w, .int .i64 g'.h, .slice A' n' c'] 24).box #[.int .i64 0, .int .i64 0] 45
  simp only [size_alloc1, List.nil_append, List.cons_append] at S0
  obtain ⟨c0, c1, c2⟩ := (S0.blk 2 rfl).cell3
  obtain ⟨e0, e1, e2⟩ := (S0.blk 3 rfl).cell3
  by_cases h0 : both2 g g' = 0
  · have h00 := h0
    unfold both2 at h00
    have hg : chkG g = 0 := by
      by_cases h : chkG g = 0
      · exact h
      · rw [if_pos h] at h00; exact absurd h00 h
    rw [if_neg (by omega)] at h00
    obtain ⟨W, H, bs⟩ := g
    obtain ⟨a, b, h1, h2, ha1, ha, hbb1, hb, hl⟩ := chk_zero hg
    simp only at h1 h2 hl lb
    subst h1 h2
    obtain ⟨W', H', bs'⟩ := g'
    obtain ⟨a', b', h1, h2, ha1', ha', hbb1', hb', hl'⟩ := chk_zero h00
    simp only at h1 h2 hl' lb'
    subst h1 h2
    obtain rfl : n = b * a := by omega
    obtain rfl : n' = b' * a' := by omega
    have H0 := Lib.hid h0
    have hz : (both2 ⟨(a : Int), (b : Int), bs⟩ ⟨(a' : Int), (b' : Int), bs'⟩ != 0) = false := by simpa using h0
    have HZ := Lib.hid h0
    rw [h0] at HB
    simp only at S0 c0 c1 c2 e0 e1 e2 HB ⊢
    clear h00 hg hl hl' lb lb' hr hr' h0 hz
    go_enter Try.func40, Try.ntmps40
    go_wp2_with fail
    refine (HB.out _).mono ?_
    rintro e w1 ⟨rfl, hb1⟩
    have S1 := S0.keep hb1
    clear c0 c1 c2 e0 e1 e2 HB
    go_wp2_with fail
    go_loopw [6] (fun i wr => ∃ y : Nat, y ≤ b' ∧ i = .int .i64 y ∧ (∀ x' y' : Nat, x' < a' → y' < y → ¬ Meets a b bs a' b' bs' x' y') ∧
        St w [.rd A (b * a) (bs.map Value.bool), .rd A' (b' * a') (bs'.map Value.bool), .blk w.heap.size 24 #[.int .i64 a, .int .i64 b, .slice A (b * a) c], .blk (w.heap.size + 1) 24 #[.int .i64 a', .int .i64 b', .slice A' (b' * a') c'], .blk (w.heap.size + 1 + 1) 45 #[.int .i64 0, .int .i64 0]] wr) (fun i _ => b' - (intOf i).toNat)
    case atStart => exact ⟨0, Nat.zero_le _, rfl, fun _ _ _ h => absurd h (by omega), S1⟩
    case round =>
      clear S0 S1
      obtain ⟨y, hy, rfl, hall, S⟩ := hrel
      have HA := Lib.hid hall
      clear hall
      obtain ⟨e0, e1, e2⟩ := (S.blk 3 rfl).cell3
      by_cases hlty : y < b'
      · go_wp2_with fail
        go_loopw [7] (fun i wr => ∃ x : Nat, x ≤ a' ∧ i = .int .i64 x ∧ (∀ x' : Nat, x' < x → ¬ Meets a b bs a' b' bs' x' y) ∧
            St w [.rd A (b * a) (bs.map Value.bool), .rd A' (b' * a') (bs'.map Value.bool), .blk w.heap.size 24 #[.int .i64 a, .int .i64 b, .slice A (b * a) c], .blk (w.heap.size + 1) 24 #[.int .i64 a', .int .i64 b', .slice A' (b' * a') c'], .blk (w.heap.size + 1 + 1) 45 #[.int .i64 0, .int .i64 0]] wr) (fun i _ => a' - (intOf i).toNat)
        case atStart => exact ⟨0, Nat.zero_le _, rfl, fun _ h => absurd h (by omega), S⟩
        case round =>
          clear S e0 e1 e2
          obtain ⟨x, hx, rfl, hall, S⟩ := hrel
          have HX := Lib.hid hall
          clear hall
          obtain ⟨c0, c1, c2⟩ := (S.blk 2 rfl).cell3
          obtain ⟨e0, e1, e2⟩ := (S.blk 3 rfl).cell3
          by_cases hlt : x < a'
          · by_cases hm : Meets a b bs a' b' bs' x y
            · have HM := Lib.hid hm
              clear hm
              go_wp2_with fail
              refine (meets_any true a b c a' b' c' x y A A' bs bs' _ (by simpa using HM.out) ha1 hbb1 ha hb ha1' hbb1' ha' hb' (by omega) (by omega) (S.rd 0 rfl) (S.rd 1 rfl)).mono ?_
              rintro e w2 ⟨rfl, hb2⟩
              have S2 := S.keep hb2
              clear c0 c1 c2 e0 e1 e2
              have hR2 := S2.blk 4 rfl
              obtain ⟨r0, r1⟩ := hR2.cellP
              obtain ⟨f0, f1⟩ := hR2.frozenP
              obtain ⟨q0, q1⟩ := (hR2.setP (.int .i64 x) (.int .i64 y)).cellP
              go_wp2_with fail
              refine bodyPost_ret (v := .tuple #[.agg #[.int .i64 x, .int .i64 y], .int .i64 0]) (by simp [results, Try.results40, go_sem, q0, q1]) rfl ?_
              exact offRet_some H0.out (off_grid ha1' hlty HM.out HA.out HX.out) (below_setP S2.below (by omega) _ _)
            · have HM := Lib.hid hm
              clear hm
              go_wp2_with fail
              refine (meets_any false a b c a' b' c' x y A A' bs bs' _ (by simpa using HM.out) ha1 hbb1 ha hb ha1' hbb1' ha' hb' (by omega) (by omega) (S.rd 0 rfl) (S.rd 1 rfl)).mono ?_
              rintro e w2 ⟨rfl, hb2⟩
              have S2 := S.keep hb2
              clear c0 c1 c2 e0 e1 e2
              go_wp2_with fail
              go_roundw
              case rel =>
                refine ⟨x + 1, by omega, by go_num, fun x' hx' => ?_, S2⟩
                rcases Nat.lt_or_ge x' x with h | h
                · exact HX.out x' h
                · obtain rfl : x' = x := by omega
                  exact HM.out
              case measure => simp [intOf]; omega
          · have hxa : x = a' := by omega
            go_wp2_with fail
            go_roundw
            case rel =>
              refine ⟨y + 1, by omega, by go_num, fun x' y' hx' hy' => ?_, S⟩
              rcases Nat.lt_or_ge y' y with h | h
              · exact HA.out x' y' hx' h
              · obtain rfl : y' = y := by omega
                exact HX.out x' (by omega)
            case measure => simp [intOf]; omega
      · have hyb : y = b' := by omega
        have hR2 := S.blk 4 rfl
        obtain ⟨r0, r1⟩ := hR2.cellP
        obtain ⟨f0, f1⟩ := hR2.frozenP
        obtain ⟨q0, q1⟩ := (hR2.setP (.int .i64 0) (.int .i64 0)).cellP
        go_wp2_with fail
        refine bodyPost_ret (v := .tuple #[.agg #[.int .i64 0, .int .i64 0], .int .i64 6]) (by simp [results, Try.results40, go_sem, q0, q1]) rfl ?_
        exact offRet_none H0.out (off_none ha1' hbb1' fun x' y' h1 h2 => HA.out x' y' h1 (by omega)) (below_setP S.below (by omega) _ _)
  · have hcb : (both2 g g' != 0) = true := by simpa using h0
    have H0 := Lib.hid h0
    have HE : Hid (∃ k, both2 g g' = k) := Lib.hid ⟨_, rfl⟩
    generalize hk : both2 g g' = k at *
    have HK := Lib.hid hk
    clear h0 lb lb' hr hr' HE hk
    go_enter Try.func40, Try.ntmps40
    go_wp2_with fail
    refine (HB.out _).mono ?_
    rintro e w1 ⟨rfl, hb1⟩
    have S1 := S0.keep hb1
    clear c0 c1 c2 e0 e1 e2
    obtain ⟨c0, c1, c2⟩ := (S1.blk 2 rfl).cell3
    obtain ⟨e0, e1, e2⟩ := (S1.blk 3 rfl).cell3
    go_wp2_with fail
    refine (HB.out _).mono ?_
    rintro e w2 ⟨rfl, hb2⟩
    have S2 := S1.keep hb2
    clear c0 c1 c2 e0 e1 e2
    have hR2 := S2.blk 4 rfl
    obtain ⟨r0, r1⟩ := hR2.cellP
    obtain ⟨f0, f1⟩ := hR2.frozenP
    obtain ⟨q0, q1⟩ := (hR2.setP (.int .i64 0) (.int .i64 0)).cellP
    go_wp2_with fail
    refine bodyPost_ret (v := .tuple #[.agg #[.int .i64 0, .int .i64 0], .int .i64 k]) (by simp [results, Try.results40, go_sem, q0, q1]) rfl ?_
    exact offRet_bad HK.out H0.out (below_setP S2.below (by omega) _ _)
end Go.Proofs.Ytliibficmdomjaa
