/- Parts of the proof, in their order. -/
import Derived.Test.YtliibficmdomjaaDoorRowz
import Derived.Test.YtliibficmdomjaaDoorMg7z
import Derived.Test.YtliibficmdomjaaDoorMg3z
import Derived.Test.YtliibficmdomjaaDoorMg2z
import Derived.BigQuiet
import Derived.Outline
/- repeat.repeats: whether a step is a repeat of a valid grid. -/
namespace Go.Proofs.YtliibficmdomjaaDoor
open Go.RowKit

theorem rmod_to {r : Int} (a n : Int) (w : World) (h : a % n = r) (hn : 1 ≤ n) (hn2 : n ≤ 1000000) :
    Calls Tryd.prog 39 #[.int .i64 a, .int .i64 n] w fun e w' => e = .returned (.int .i64 r) ∧ w' = w := h ▸ rmod_any a n w hn hn2
theorem turned_to {r : Bool} (a d bl o1 o2 : Nat) (p q : List Bool) (w : World) (h : turnedB p q d = r) (ha : a ≤ 64) (hd : d < a) (hp : Rd w (some ⟨bl, o1, none⟩) a (p.map Value.bool)) (hq : Rd w (some ⟨bl, o2, none⟩) a (q.map Value.bool)) :
    Calls Tryd.prog 54 #[.slice (some ⟨bl, o1, none⟩) a a, .slice (some ⟨bl, o2, none⟩) a a, .int .i64 d] w fun e w' => e = .returned (.bool r) ∧ Below w.heap.size w w' := h ▸ rowturned_any a d bl o1 o2 p q w ha hd hp hq
theorem repB_step {a b d e : Nat} {bs : List Bool} {dx dy : Int} (h1 : dx % (a : Int) = (d : Int)) (h2 : dy % (b : Int) = (e : Int)) (hd : d < a) :
    repB a b bs dx dy = true ↔ ∀ y : Nat, y < b → turnedB (rowL a b bs ((y : Int) + (e : Int))) (rowL a b bs (y : Int)) d = true := by
  rw [← repB_mod, h1, h2]
  exact repB_rows hd

set_option maxHeartbeats 2000000 in
theorem repeats_any (a b bl o c : Nat) (bs : List Bool) (dx dy : Int) (w : World) (ha1 : 1 ≤ a) (hb1 : 1 ≤ b) (ha : a ≤ 64) (hb : b ≤ 64) (hc : b * a ≤ c) (hr : Rd w (some ⟨bl, o, none⟩) (b * a) (bs.map Value.bool)) :
    Calls Tryd.prog 48 #[.agg #[.int .i64 a, .int .i64 b, .slice (some ⟨bl, o, none⟩) (b * a) c], .int .i64 dx, .int .i64 dy] w fun e w' => e = .returned (.bool (repB a b bs dx dy)) ∧ Below w.heap.size w w' := by
  have u1 := Int.emod_nonneg dx (show (a : Int) ≠ 0 by omega)
  have u2 := Int.emod_lt_of_pos dx (show 0 < (a : Int) by omega)
  have v1 := Int.emod_nonneg dy (show (b : Int) ≠ 0 by omega)
  have v2 := Int.emod_lt_of_pos dy (show 0 < (b : Int) by omega)
  obtain ⟨d, hd⟩ : ∃ d : Nat, dx % (a : Int) = (d : Int) := ⟨(dx % (a : Int)).toNat, by omega⟩
  obtain ⟨e, he⟩ : ∃ e : Nat, dy % (b : Int) = (e : Int) := ⟨(dy % (b : Int)).toNat, by omega⟩
  have hda : d < a := by omega
  have heb : e < b := by omega
  have HI := Lib.hid (repB_step (bs := bs) hd he hda)
  have HD := Lib.hid hd
  have HE := Lib.hid he
  clear hd he u1 u2 v1 v2
  generalize repB a b bs dx dy = R at *
  have S0 := (St.start w).box #[.int .i64 a, .int .i64 b, .slice (some ⟨bl, o, none⟩) (b * a) c] 24
  simp only [List.nil_append] at S0
  obtain ⟨c0, c1, c2⟩ := (S0.blk 0 rfl).cell3
  have HR := Lib.hid (fun wz (hz : Below w.heap.size w wz) Y => rd_row Y (hr.below hz) hb1)
  clear hr
  go_enter Tryd.func48, Tryd.ntmps48
  go_wp2_with fail
  refine (rmod_to dx (a : Int) _ HD.out (by omega) (by omega)).mono ?_
  rintro e0 w1 ⟨rfl, rfl⟩
  go_wp2_with fail
  go_loopw [14] (fun i wr => ∃ y : Nat, y ≤ b ∧ i = .int .i64 y ∧ (∀ y' : Nat, y' < y → turnedB (rowL a b bs ((y' : Int) + (e : Int))) (rowL a b bs (y' : Int)) d = true) ∧ St w [.blk w.heap.size 24 #[.int .i64 a, .int .i64 b, .slice (some ⟨bl, o, none⟩) (b * a) c]] wr) (fun i _ => b - (intOf i).toNat)
  case atStart => exact ⟨0, Nat.zero_le _, rfl, fun _ h => absurd h (by omega), S0⟩
  case round =>
    clear S0 c0 c1 c2
    obtain ⟨y, hy, rfl, hall, S⟩ := hrel
    have HA := Lib.hid hall
    clear hall
    obtain ⟨c0, c1, c2⟩ := (S.blk 0 rfl).cell3
    by_cases hlt : y < b
    · have hw : IntKind.i64.wrap ((y : Int) + (e : Int)) = (y : Int) + (e : Int) := IntWalk.i64_in _ (by omega)
      have SD := S.drew
      rcases Bool.eq_false_or_eq_true (turnedB (rowL a b bs ((y : Int) + (e : Int))) (rowL a b bs (y : Int)) d) with hT | hT
      all_goals
        have HT := Lib.hid hT
        clear hT
        go_wp2_with fail
        go_region_held3 (fun w' => w'.cell? ⟨w.heap.size, 0, none⟩ = some (.int .i64 a) ∧ w'.cell? ⟨w.heap.size, 1, none⟩ = some (.int .i64 b) ∧ w'.cell? ⟨w.heap.size, 2, none⟩ = some (.slice (some ⟨bl, o, none⟩) (b * a) c))
          (first | exact (SD.blk 0 rfl).cell3 | go_keep)
          (first
            | (go_at_call 39; refine (rmod_to dy (b : Int) _ HE.out (by omega) (by omega)).mono ?_; rintro ez wz ⟨rfl, rfl⟩)
            | (go_at_call 38; refine (row_any a b bl o c _ _ ha1 hb1 ha hb hc).mono ?_; rintro ez wz ⟨rfl, hbz⟩; replace SD := SD.keep hbz)
            | (go_at_call 54; refine (turned_to a d bl _ _ _ _ _ HT.out ha hda (HR.out _ SD.below _) (HR.out _ SD.below _)).mono ?_; rintro ez wz ⟨rfl, hbz⟩; replace SD := SD.keep hbz)
            | fail)
      · go_wp2_with fail
        go_roundw
        case rel =>
          refine ⟨y + 1, by omega, by go_num, fun y' hy' => ?_, SD⟩
          rcases Nat.lt_or_ge y' y with h | h
          · exact HA.out y' h
          · obtain rfl : y' = y := by omega
            exact HT.out
        case measure => simp [intOf]; omega
      · have hR : Hid (R = false) := Lib.hid (by
          rcases Bool.eq_false_or_eq_true R with h | h
          · have := HI.out.1 h y hlt
            rw [HT.out] at this
            cases this
          · exact h)
        go_wp2_with fail
        go_ret
        exact ⟨ret_e hR.out.symm, SD.below⟩
    · obtain rfl : y = b := by omega
      go_wp2_with fail
      go_ret
      exact ⟨ret_e (HI.out.2 HA.out).symm, S.below⟩
end Go.Proofs.YtliibficmdomjaaDoor
/- symmetry.before: whether a grid comes before another one as a form. -/
namespace Go.Proofs.YtliibficmdomjaaDoor
open Go.RowKit

theorem ret_b2' {a b : Bool} (h : a = b) : Ending.returned (.bool a) = Ending.returned (.bool b) := by rw [h]

set_option maxHeartbeats 2000000 in
theorem before_any (f g : Gd) (A A' : Option Addr) (n c n' c' : Nat) (w : World) (hr : Rd w A n (f.bits.map Value.bool)) (hr' : Rd w A' n' (g.bits.map Value.bool)) (hf : chkG f = 0) (hg : chkG g = 0) :
    Calls Tryd.prog 36 #[.agg #[.int .i64 f.w, .int .i64 f.h, .slice A n c], .agg #[.int .i64 g.w, .int .i64 g.h, .slice A' n' c']] w fun e w' => e = .returned (.bool (beforeG f g)) ∧ Below w.heap.size w w' := by
  obtain ⟨a, b, e1, e2, ha1, ha, hb1, hb, e3⟩ := chk_zero hf
  obtain ⟨a', b', f1, f2, ha1', ha', hb1', hb', f3⟩ := chk_zero hg
  obtain ⟨W, H, bs⟩ := f
  obtain ⟨W', H', bs'⟩ := g
  simp only at e1 e2 e3 f1 f2 f3 hr hr' ⊢
  subst e1 e2 f1 f2
  have hl : bs.length = n := by simpa using hr.len
  have hl' : bs'.length = n' := by simpa using hr'.len
  have S0 := ((((St.start w).addRd hr).addRd hr').box #[.int .i64 a, .int .i64 b, .slice A n c] 24).box #[.int .i64 a', .int .i64 b', .slice A' n' c'] 24
  simp only [size_alloc1, List.nil_append, List.cons_append] at S0
  obtain ⟨c0, c1, c2⟩ := (S0.blk 2 rfl).cell3
  obtain ⟨d0, d1, d2⟩ := (S0.blk 3 rfl).cell3
  clear hf hg hr hr'
  by_cases h1 : a = a'
  · subst h1
    by_cases h2 : b = b'
    · subst h2
      have hR : beforeG ⟨a, b, bs⟩ ⟨a, b, bs'⟩ = lexB bs bs' := by unfold beforeG; rw [if_neg (by simp), if_neg (by simp)]
      have hn : n' = n := by omega
      subst hn
      have HE := Lib.hid (fun i p q h => lexB_at (ps := bs) (qs := bs') (i := i) (p := p) (q := q) h)
      have HA := Lib.hid (fun h => lexB_all (ps := bs) (qs := bs') h)
      have HL := Lib.hid hl
      have HL' := Lib.hid hl'
      rw [hR]
      clear hR hl hl' f3
      generalize lexB bs bs' = R at *
      have hn1 : n' ≤ 4096 := by
        have := HL.out
        have k : b * a ≤ 64 * 64 := Nat.mul_le_mul hb ha
        omega
      go_enter Tryd.func36, Tryd.ntmps36
      go_wp2_with fail
      go_loopw [32] (fun i wr => ∃ x : Nat, x ≤ n' ∧ i = .int .i64 x ∧ (∀ j, j < x → bs[j]? = bs'[j]?) ∧
          St w [.rd A n' (bs.map Value.bool), .rd A' n' (bs'.map Value.bool), .blk w.heap.size 24 #[.int .i64 a, .int .i64 b, .slice A n' c], .blk (w.heap.size + 1) 24 #[.int .i64 a, .int .i64 b, .slice A' n' c']] wr) (fun i _ => n' - (intOf i).toNat)
      case atStart => exact ⟨0, Nat.zero_le _, rfl, fun _ h => absurd h (Nat.not_lt_zero _), S0⟩
      case round =>
        clear S0 c0 c1 c2 d0 d1 d2
        obtain ⟨x, hx, rfl, hall, S⟩ := hrel
        have HX := Lib.hid hall
        clear hall
        obtain ⟨c0, c1, c2⟩ := (S.blk 2 rfl).cell3
        obtain ⟨d0, d1, d2⟩ := (S.blk 3 rfl).cell3
        by_cases hlt : x < n'
        · obtain ⟨b1, o1, hA1, _, h1⟩ := (S.rd 0 rfl).at_ (by omega)
          obtain ⟨b2, o2, hA2, _, h2⟩ := (S.rd 1 rfl).at_ (by omega)
          have k1 : bs[x]? = some (bs.getD x false) := by have := HL.out; rw [List.getElem?_eq_getElem (by omega)]; simp [List.getD, show x < bs.length by omega]
          have k2 : bs'[x]? = some (bs'.getD x false) := by have := HL'.out; rw [List.getElem?_eq_getElem (by omega)]; simp [List.getD, show x < bs'.length by omega]
          have g1 := h1 x (.bool (bs.getD x false)) (by rw [List.getElem?_map, k1]; rfl)
          have g2 := h2 x (.bool (bs'.getD x false)) (by rw [List.getElem?_map, k2]; rfl)
          generalize bs.getD x false = p at *
          generalize bs'.getD x false = q at *
          have K1 := Lib.hid k1
          have K2 := Lib.hid k2
          clear h1 h2 k1 k2
          subst hA1 hA2
          cases p <;> cases q
          · go_wp2_with fail
            go_roundw
            case rel =>
              refine ⟨x + 1, by omega, by go_num, fun j hj => ?_, S⟩
              rcases Nat.lt_or_ge j x with h | h
              · exact HX.out j h
              · obtain rfl : j = x := by omega
                rw [K1.out, K2.out]
            case measure => simp [intOf]; omega
          · have hq : Hid (R = true) := Lib.hid (HE.out x false true HX.out K1.out K2.out (by decide))
            go_wp2_with fail
            go_ret
            exact ⟨ret_b2' hq.out.symm, S.below⟩
          · have hq : Hid (R = false) := Lib.hid (HE.out x true false HX.out K1.out K2.out (by decide))
            go_wp2_with fail
            go_ret
            exact ⟨ret_b2' hq.out.symm, S.below⟩
          · go_wp2_with fail
            go_roundw
            case rel =>
              refine ⟨x + 1, by omega, by go_num, fun j hj => ?_, S⟩
              rcases Nat.lt_or_ge j x with h | h
              · exact HX.out j h
              · obtain rfl : j = x := by omega
                rw [K1.out, K2.out]
            case measure => simp [intOf]; omega
        · have hR : Hid (R = false) := Lib.hid (HA.out fun j hj => HX.out j (by have := HL.out; omega))
          go_wp2_with fail
          go_ret
          exact ⟨ret_b2' hR.out.symm, S.below⟩
    · have hR : beforeG ⟨a, b, bs⟩ ⟨a, b', bs'⟩ = decide (b < b') := by unfold beforeG; rw [if_neg (by simp), if_pos (show (b : Int) ≠ (b' : Int) by omega), decide_eq_decide]; show (b : Int) < (b' : Int) ↔ _; omega
      rw [hR]
      clear hR e3 f3 hl hl'
      go_enter Tryd.func36, Tryd.ntmps36
      go_wp2_with fail
      go_ret
      exact ⟨rfl, S0.below⟩
  · have hR : beforeG ⟨a, b, bs⟩ ⟨a', b', bs'⟩ = decide (a < a') := by unfold beforeG; rw [if_pos (show (a : Int) ≠ (a' : Int) by omega), decide_eq_decide]; show (a : Int) < (a' : Int) ↔ _; omega
    rw [hR]
    clear hR e3 f3 hl hl'
    go_enter Tryd.func36, Tryd.ntmps36
    go_wp2_with fail
    go_ret
    exact ⟨rfl, S0.below⟩
end Go.Proofs.YtliibficmdomjaaDoor
