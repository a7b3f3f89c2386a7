/- symmetry.before: whether a grid comes before another one as a form. -/
import Derived.Test.YtliibficmdomjaaMg4z
import Derived.Test.YtliibficmdomjaaMg6z
import Derived.Test.YtliibficmdomjaaMg8z
import Derived.BigQuiet
import Derived.Outline
namespace Go.Proofs.Ytliibficmdomjaa
open Go.RowKit

theorem ret_b2' {a b : Bool} (h : a = b) : Ending.returned (.bool a) = Ending.returned (.bool b) := by rw [h]

set_option maxHeartbeats 2000000 in
theorem before_any (f g : Gd) (A A' : Option Addr) (n c n' c' : Nat) (w : World) (hr : Rd w A n (f.bits.map Value.bool)) (hr' : Rd w A' n' (g.bits.map Value.bool)) (hf : chkG f = 0) (hg : chkG g = 0) :
    Calls Try.prog 34 #[.agg #[.int .i64 f.w, .int .i64 f.h, .slice A n c], .agg #[.int .i64 g.w, .int .i64 g.h, .slice A' n' c']] w fun e w' => e = .returned (.bool (beforeG f g)) ∧ Below w.heap.size w w' := by
  obtain ⟨a, b, e1, e2, ha1, ha, hb1, hb, e3⟩ := chk_zero hf
  obtain ⟨a', b', f1, f2, ha1', ha', hb1', hb', f3⟩ := chk_zero hg
  obtain ⟨W, H, bs⟩ := f
  obtain ⟨W', H', bs'⟩ := g
  simp only at e1 e2 e3 f1 f2 f3 hr hr' ⊢
  subst e1 e2 f1 f2
  have hl : bs.length = n := by simpa using hr.len
  have hl' : bs'.length = n' := by simpa using hr'.len
  have S0 := ((((St.start w).addRd hr).addRd hr').box #[.int .i64 a, .int .i64 b, .slice A n c] 24).box #[.int .i64 a', .int .i64 b', .slice A' n' c'] 24
  simp only [size_alloc1, List.nil_append, List.cons_append] at S0
  obtain ⟨c0, c1, c2⟩ := (S0.blk 2 rfl).cell3
  obtain ⟨d0, d1, d2⟩ := (S0.blk 3 rfl).cell3
  clear hf hg hr hr'
  by_cases h1 : a = a'
  · subst h1
    by_cases h2 : b = b'
    · subst h2
      have hR : beforeG ⟨a, b, bs⟩ ⟨a, b, bs'⟩ = lexB bs bs' := by unfold beforeG; rw [if_neg (by simp), if_neg (by simp)]
      have hn : n' = n := by omega
      subst hn
      have HE := Lib.hid (fun i p q h => lexB_at (ps := bs) (qs := bs') (i := i) (p := p) (q := q) h)
      have HA := Lib.hid (fun h => lexB_all (ps := bs) (qs := bs') h)
      have HL := Lib.hid hl
      have HL' := Lib.hid hl'
      rw [hR]
      clear hR hl hl' f3
      generalize lexB bs bs' = R at *
      have hn1 : n' ≤ 4096 := by
        have := HL.out
        have k : b * a ≤ 64 * 64 := Nat.mul_le_mul hb ha
        omega
      go_enter Try.func34, Try.ntmps34
      go_wp2_with fail
      go_loopw [32] (fun i wr => ∃ x : Nat, x ≤ n' ∧ i = .int .i64 x ∧ (∀ j, j < x → bs[j]? = bs'[j]?) ∧
          St w [.rd A n' (bs.map Value.bool), .rd A' n' (bs'.map Value.bool), .blk w.heap.size 24 #[.int .i64 a, .int .i64 b, .slice A n' c], .blk (w.heap.size + 1) 24 #[.int .i64 a, .int .i64 b, .slice A' n' c']] wr) (fun i _ => n' - (intOf i).toNat)
      case atStart => exact ⟨0, Nat.zero_le _, rfl, fun _ h => absurd h (Nat.not_lt_zero _), S0⟩
      case round =>
        clear S0 c0 c1 c2 d0 d1 d2
        obtain ⟨x, hx, rfl, hall, S⟩ := hrel
        have HX := Lib.hid hall
        clear hall
        obtain ⟨c0, c1, c2⟩ := (S.blk 2 rfl).cell3
        obtain ⟨d0, d1, d2⟩ := (S.blk 3 rfl).cell3
        by_cases hlt : x < n'
        · obtain ⟨b1, o1, hA1, _, h1⟩ := (S.rd 0 rfl).at_ (by omega)
          obtain ⟨b2, o2, hA2, _, h2⟩ := (S.rd 1 rfl).at_ (by omega)
          have k1 : bs[x]? = some (bs.getD x false) := by have := HL.out; rw [List.getElem?_eq_getElem (by omega)]; simp [List.getD, show x < bs.length by omega]
          have k2 : bs'[x]? = some (bs'.getD x false) := by have := HL'.out; rw [List.getElem?_eq_getElem (by omega)]; simp [List.getD, show x < bs'.length by omega]
          have g1 := h1 x (.bool (bs.getD x false)) (by rw [List.getElem?_map, k1]; rfl)
          have g2 := h2 x (.bool (bs'.getD x false)) (by rw [List.getElem?_map, k2]; rfl)
          generalize bs.getD x false = p at *
          generalize bs'.getD x false = q at *
          have K1 := Lib.hid k1
          have K2 := Lib.hid k2
          clear h1 h2 k1 k2
          subst hA1 hA2
          cases p <;> cases q
          · go_wp2_with fail
            go_roundw
            case rel =>
              refine ⟨x + 1, by omega, by go_num, fun j hj => ?_, S⟩
              rcases Nat.lt_or_ge j x with h | h
              · exact HX.out j h
              · obtain rfl : j = x := by omega
                rw [K1.out, K2.out]
            case measure => simp [intOf]; omega
          · have hq : Hid (R = true) := Lib.hid (HE.out x false true HX.out K1.out K2.out (by decide))
            go_wp2_with fail
            go_ret
            exact ⟨ret_b2' hq.out.symm, S.below⟩
          · have hq : Hid (R = false) := Lib.hid (HE.out x true false HX.out K1.out K2.out (by decide))
            go_wp2_with fail
            go_ret
            exact ⟨ret_b2' hq.out.symm, S.below⟩
          · go_wp2_with fail
            go_roundw
            case rel =>
              refine ⟨x + 1, by omega, by go_num, fun j hj => ?_, S⟩
              rcases Nat.lt_or_ge j x with h | h
              · exact HX.out j h
              · obtain rfl : j = x := by omega
                rw [K1.out, K2.out]
            case measure => simp [intOf]; omega
        · have hR : Hid (R = false) := Lib.hid (HA.out fun j hj => HX.out j (by have := HL.out; omega))
          go_wp2_with fail
          go_ret
          exact ⟨ret_b2' hR.out.symm, S.below⟩
    · have hR : beforeG ⟨a, b, bs⟩ ⟨a, b', bs'⟩ = decide (b < b') := by unfold beforeG; rw [if_neg (by simp), if_pos (show (b : Int) ≠ (b' : Int) by omega), decide_eq_decide]; show (b : Int) < (b' : Int) ↔ _; omega
      rw [hR]
      clear hR e3 f3 hl hl'
      go_enter Try.func34, Try.ntmps34
      go_wp2_with fail
      go_ret
      exact ⟨rfl, S0.below⟩
  · have hR : beforeG ⟨a, b, bs⟩ ⟨a', b', bs'⟩ = decide (a < a') := by unfold beforeG; rw [if_pos (show (a : Int) ≠ (a' : Int) by omega), decide_eq_decide]; show (a : Int) < (a' : Int) ↔ _; omega
    rw [hR]
    clear hR e3 f3 hl hl'
    go_enter Try.func34, Try.ntmps34
    go_wp2_with fail
    go_ret
    exact ⟨rfl, S0.below⟩
end Go.Proofs.Ytliibficmdomjaa
