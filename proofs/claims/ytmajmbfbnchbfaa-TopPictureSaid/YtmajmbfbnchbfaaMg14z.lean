/- Parts of the proof, in their order. -/
import Derived.Test.YtmajmbfbnchbfaaMg13z
import Derived.Test.YtmajmbfbnchbfaaColPz
import Derived.Test.YtmajmbfbnchbfaaMg6z
import Derived.Test.YtmajmbfbnchbfaaMg2z
import Derived.Test.YtmajmbfbnchbfaaFinez
import Derived.KernelRfl
import Derived.RegionTactic
import Derived.Handy
import Derived.Outline
import Derived.Deep.Draws
/- Plain laws of the whole: a front is woven back as its own cloth, first colours show it, a grouped draft weaves the changed grid. No program in sight. -/
namespace Go.Proofs.Ytmajmbfbnchbfaa
open Go.RowKit

section
variable {a b : Nat} {bs : List Bool} {p q P Q cs : List Int}
theorem thrI_front (ha1 : 1 ≤ a) (ha : a ≤ 64) (hb1 : 1 ≤ b) (hb : b ≤ 64) (hp : p.length = a) (hq : q.length = b) (hP : P.length = a) (hQ : Q.length = b) (h1 : fineL p = true) (h2 : fineL q = true) (h3 : fineL P = true) (h4 : fineL Q = true) :
    chkI ⟨a, b, Pl.tab a b (frontF a bs p q)⟩ = 0 ∧ thrI ⟨a, b, Pl.tab a b (frontF a bs p q)⟩ P Q = 0 := by
  have h := chkI_tab (F := frontF a bs p q) ha1 ha hb1 hb (fun x y hx hy => frontF_fine h1 h2 hp hq hx hy)
  exact ⟨h, thrI_ok h (by simp [hP]) (by simp [hQ]) h3 h4⟩
theorem likeG_mk (ha1 : 1 ≤ a) (ha : a ≤ 64) (hb1 : 1 ≤ b) (hb : b ≤ 64) (hl : bs.length = b * a) : likeG ⟨a, b, bs⟩ ⟨a, b, cs⟩ = 0 := by
  unfold likeG
  rw [if_neg (by rw [chkG_mk ha1 ha hb1 hb hl]; simp), if_neg (by simp)]
theorem weave_mk (h0 : thrI ⟨a, b, cs⟩ p q = 0) (ha1 : 1 ≤ a) (ha : a ≤ 64) (hb1 : 1 ≤ b) (hb : b ≤ 64) (hl : bs.length = b * a) (hf : fitB a b cs p q = true) :
    weaveI ⟨a, b, cs⟩ p q ⟨a, b, bs⟩ = (⟨a, b, Pl.tab a b (weaveF a cs p q bs)⟩, 0) := by
  unfold weaveI
  rw [if_neg (by rw [h0]; simp), if_neg (by rw [likeG_mk ha1 ha hb1 hb hl]; simp)]
  simp only [Int.toNat_natCast]
  rw [if_pos hf]
/-- The weave that is found for a front, like the cloth, is the cloth. -/
theorem weave_front (ha1 : 1 ≤ a) (ha : a ≤ 64) (hb1 : 1 ≤ b) (hb : b ≤ 64) (hl : bs.length = b * a) (hp : p.length = a) (hq : q.length = b) (h1 : fineL p = true) (h2 : fineL q = true) :
    weaveI ⟨a, b, Pl.tab a b (frontF a bs p q)⟩ p q ⟨a, b, bs⟩ = (⟨a, b, bs⟩, 0) := by
  have hf := (fitF_lists hp hq h1 h2).1 (front_fits (bs := bs) hp hq h1 h2)
  rw [weave_mk (thrI_front ha1 ha hb1 hb hp hq hp hq h1 h2 h1 h2).2 ha1 ha hb1 hb hl hf]
  have h : bs = Pl.tab a b (weaveF a (Pl.tab a b (frontF a bs p q)) p q bs) := by
    refine (Pl.tab_self (d := false) hl).trans (Pl.tab_congr fun x y hx hy => ?_)
    unfold weaveF upF openF
    rw [tab_getD _ _ hx hy]
    unfold frontF
    cases bs.getD (y * a + x) false
    · simp
    · simp
  rw [← h]
/-- A weave shows its image. -/
theorem shows_weave (h0 : thrI ⟨a, b, cs⟩ P Q = 0) (ha1 : 1 ≤ a) (ha : a ≤ 64) (hb1 : 1 ≤ b) (hb : b ≤ 64) (hl : cs.length = b * a) (hf : fitB a b cs P Q = true) :
    showsI ⟨a, b, Pl.tab a b (weaveF a cs P Q bs)⟩ ⟨a, b, cs⟩ P Q = (true, 0) := by
  obtain ⟨_, g1, g2, g3, g4⟩ := thrI_zero h0
  have hthr : thr ⟨a, b, Pl.tab a b (weaveF a cs P Q bs)⟩ P Q = 0 := thr_mk ha1 ha hb1 hb Pl.tab_length (Int.ofNat.inj g1) (Int.ofNat.inj g2) g3 g4
  unfold showsI
  rw [if_neg (by rw [h0]; simp), if_neg (by rw [likeG_mk ha1 ha hb1 hb Pl.tab_length]; simp), frontI_mk hthr]
  have h : Pl.tab a b (frontF a (Pl.tab a b (weaveF a cs P Q bs)) P Q) = cs := by
    refine ((Pl.tab_self (d := 0) hl).trans (Pl.tab_congr fun x y hx hy => ?_)).symm
    have hfc : fitC a cs P Q (y * a + x) = true := by
      unfold fitB at hf
      rw [List.all_eq_true] at hf
      exact hf _ (List.mem_range.2 (Pl.cell_lt hx hy))
    rw [fitC_at hx, Bool.or_eq_true, decide_eq_true_eq, decide_eq_true_eq] at hfc
    unfold frontF
    rw [tab_getD _ _ hx hy]
    unfold weaveF upF openF
    by_cases h1 : Q.getD y 0 = cs.getD (y * a + x) 0
    · by_cases h2 : P.getD x 0 = cs.getD (y * a + x) 0
      · rw [h1, h2]; split <;> rfl
      · rw [decide_eq_true h1, decide_eq_false h2]
        simp only [Bool.not_true, Bool.false_or, Bool.false_and, Bool.false_eq_true, if_false, h1]
    · rcases hfc with h2 | h2
      · rw [decide_eq_false h1]
        simp only [Bool.not_false, Bool.true_or, if_true, h2]
      · exact absurd h2 h1
  rw [h, sameI_self]
end
end Go.Proofs.Ytmajmbfbnchbfaa
/- slices.Equal on slices of numbers: whether they read the same. -/
namespace Go.Proofs.Ytmajmbfbnchbfaa
open Go.RowKit

set_option maxHeartbeats 1600000 in
theorem eqi_any (l l2 : List Int) (A A2 : Option Addr) (n c n2 c2 : Nat) (w : World) (hr : Rd w A n (l.map (Value.int .i64))) (hr2 : Rd w A2 n2 (l2.map (Value.int .i64))) (hn : n ≤ 1048576) :
    Calls Try.prog 50 #[.slice A n c, .slice A2 n2 c2] w fun e w' => e = .returned (.bool (decide (l = l2))) ∧ ∃ m, w' = w.drewN m := by
  have hl : l.length = n := by simpa using hr.len
  have hl2 : l2.length = n2 := by simpa using hr2.len
  by_cases hd : n = n2
  · subst hd
    have k3 : ((n : Int) != (n : Int)) = false := by simp
    have HL := Lib.hid hl
    have HL2 := Lib.hid hl2
    clear hl hl2
    go_enter Try.func50, Try.ntmps50
    go_wp2_with fail
    go_loopw [13] (fun i wr => ∃ k m : Nat, k ≤ n ∧ i = .int .i64 k ∧ (∀ j, j < k → l[j]? = l2[j]?) ∧ wr = w.drewN m) (fun i _ => n - (intOf i).toNat)
    case atStart => exact ⟨0, 0, Nat.zero_le _, rfl, fun _ h => absurd h (by omega), rfl⟩
    case round =>
      obtain ⟨k, m, hk, rfl, heq, rfl⟩ := hrel
      have HE := Lib.hid heq
      clear heq
      by_cases hlt : k < n
      · have hkl : k < l.length := by rw [HL.out]; exact hlt
        have hkl2 : k < l2.length := by rw [HL2.out]; exact hlt
        obtain ⟨ba, oa, hA1, hbl, hca⟩ := hr.at_ (by omega)
        obtain ⟨bb, ob, hA2, hbl2, hcb⟩ := hr2.at_ (by omega)
        subst hA1 hA2
        have hcella := int_read HL.out hlt hca
        have hcellb := int_read HL2.out hlt hcb
        have hpq : Hid (l.getD k 0 = l2.getD k 0 → l[k]? = l2[k]?) := fun h => by
          simp [List.getD, hkl, hkl2] at h
          simp [hkl, hkl2, h]
        have hne : Hid (l.getD k 0 ≠ l2.getD k 0 → l ≠ l2) := fun h e => h (by rw [e])
        generalize l.getD k 0 = p at *
        generalize l2.getD k 0 = q at *
        clear hca hcb hkl hkl2 hbl hbl2
        have hRR : Hid (p = q → ∀ j, j < k + 1 → l[j]? = l2[j]?) := fun e j hj => by
          by_cases hjk : j = k
          · subst hjk; exact hpq.out e
          · exact HE.out j (by omega)
        by_cases hpq2 : p = q
        · have e1 : (p != q) = false := by simp [hpq2]
          have HRR2 := Lib.hid (hRR.out hpq2)
          clear hpq2
          go_wp2_with fail
          go_region
          all_goals
            go_wp2_with fail
            go_roundw
            case rel => exact ⟨k + 1, m + 1, by omega, by go_num, HRR2.out, rfl⟩
            case measure => simp [intOf]; omega
        · have e1 : (p != q) = true := by simpa using hpq2
          have HN2 := Lib.hid (hne.out hpq2)
          clear hpq2
          go_wp2_with fail
          go_region
          all_goals
            go_wp2_with fail
            go_ret
            exact ⟨ret_bl (decide_eq_false HN2.out).symm, m + 1, rfl⟩
      · have hkk : k = n := by omega
        have HS : Hid (l = l2) := List.ext_getElem? fun j => by
          by_cases hj : j < k
          · exact HE.out j hj
          · have h1 := HL.out
            have h2 := HL2.out
            rw [List.getElem?_eq_none (by omega), List.getElem?_eq_none (by omega)]
        go_wp2_with fail
        go_ret
        exact ⟨ret_bl (decide_eq_true HS.out).symm, m, rfl⟩
  · have HN : Hid (l ≠ l2) := fun e => hd (by rw [← hl, ← hl2, e])
    have k3 : ((n : Int) != (n2 : Int)) = true := by simp; omega
    have k4 : (n != n2) = true := by simp; omega
    clear hl hl2 hr hr2
    go_enter Try.func50, Try.ntmps50
    go_wp2_with fail
    go_ret
    exact ⟨ret_bl (decide_eq_false HN.out).symm, 0, rfl⟩
end Go.Proofs.Ytmajmbfbnchbfaa
