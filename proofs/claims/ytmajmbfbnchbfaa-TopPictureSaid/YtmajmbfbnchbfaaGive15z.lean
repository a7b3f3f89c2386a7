/- picture's state.give: a thread gets a colour, with all that follows. -/
import Derived.Test.YtmajmbfbnchbfaaMg11z
import Derived.Test.YtmajmbfbnchbfaaQueuez
import Derived.Test.YtmajmbfbnchbfaaMg2z
import Derived.Test.YtmajmbfbnchbfaaMg9z
import Derived.Test.YtmajmbfbnchbfaaProg
import Derived.Test.YtmajmbfbnchbfaaMg3z
import Derived.KernelRfl
import Derived.RegionTactic
import Derived.Deep.RegionLaw
import Derived.Handy
import Derived.Deep.QuietTactic
import Derived.BigQuiet
import Derived.Shelf.Abstract
import Derived.Deep.DeepMust
import Derived.Outline
import Derived.IntWalk
namespace Go.Proofs.Ytmajmbfbnchbfaa
open Go.RowKit

def flatT (ts : List (Nat × Nat × Int)) : List Value := ts.flatMap fun t => [.int .i64 t.1, .int .i64 t.2.1, .int .i64 t.2.2]
def unset (l : List Int) : Nat := (l.filter fun x => decide (x < 0)).length
theorem Try.infoGift : (Try.prog.info? 104).map (fun i => (i.zero, i.size, i.bytes)) = some (some (.agg #[.int .i64 0, .int .i64 0, .int .i64 0]), 3, 24) := by kernel_rfl
/-- A function value that gives the colour (x, y) of a table, whatever has been done from block B on. -/
def GivesA (f : FuncId) (caps : Array Value) (a b : Nat) (F : Nat → Nat → Int) (B : Nat) (w : World) : Prop :=
  ∀ (w' : World) (x y : Nat), Below B w w' → x < a → y < b →
    Calls Try.prog f (#[.int .i64 x, .int .i64 y] ++ caps) w' fun e w'' => e = .returned (.int .i64 (F x y)) ∧ Below w'.heap.size w' w''

def negV : Value → Bool
  | .int _ x => decide (x < 0)
  | _ => false
/-- How many numbers below 0 a block holds. -/
def muB (w : World) (g : Nat) : Nat := match w.heap[g]? with
  | some (.cells cs _ _) => (cs.toList.filter negV).length
  | _ => 0
def lenV : Value → Nat
  | .slice _ n _ => n
  | _ => 0
theorem neg_map (l : List Int) : ((l.map (Value.int .i64)).filter negV).length = unset l := by
  induction l with
  | nil => rfl
  | cons x l ih =>
    unfold unset at ih ⊢
    rw [List.map_cons, List.filter_cons, List.filter_cons]
    by_cases h : x < 0
    · rw [if_pos (show negV (.int .i64 x) = true from decide_eq_true h), if_pos (decide_eq_true h), List.length_cons, List.length_cons, ih]
    · rw [if_neg (by show ¬ decide (x < 0) = true; simp; omega), if_neg (by simp; omega), ih]
theorem muB_st {a b : Nat} {g0 g1 : FuncId} {e0 e1 : Array Value} {p q : List Int} {w : World} {g : Nat} {t : TypeId} (h : StB w g t a b (.func (.func g0) #[] e0) (.func (.func g1) #[] e1) p q) : muB w g = unset p + unset q := by
  unfold muB
  rw [show w.heap[g]? = _ from h]
  simp only
  unfold stL
  have e1 : ∀ x : Nat, negV (.int .i64 (x : Int)) = false := fun x => show decide ((x : Int) < 0) = false from decide_eq_false (by omega)
  have e2 : ∀ (f : FuncId) (c : Array Value), negV (.func (.func f) #[] c) = false := fun _ _ => rfl
  rw [List.filter_append, List.length_append, List.filter_cons, List.filter_cons, List.filter_cons, List.filter_cons, e1, e1, e2, e2]
  simp only [Bool.false_eq_true, if_false]
  rw [neg_map, neg_map]
theorem unset_le (l : List Int) : unset l ≤ l.length := List.length_filter_le _ _
theorem unset_set {l : List Int} {i : Nat} {c : Int} (hi : i < l.length) (h0 : l.getD i (-1) < 0) (hc : 0 ≤ c) : unset (l.set i c) + 1 = unset l := by
  induction l generalizing i with
  | nil => simp at hi
  | cons x l ih =>
    unfold unset at ih ⊢
    rcases i with _ | i
    · have hx : x < 0 := h0
      rw [List.set_cons_zero, List.filter_cons, List.filter_cons, if_neg (by simp; omega), if_pos (decide_eq_true hx), List.length_cons]
    · have := ih (i := i) (by simpa using hi) h0
      rw [List.set_cons_succ, List.filter_cons, List.filter_cons]
      by_cases h : x < 0
      · rw [if_pos (decide_eq_true h), if_pos (decide_eq_true h), List.length_cons, List.length_cons]
        omega
      · rw [if_neg (by simp; omega), if_neg (by simp; omega)]
        exact this

set_option linter.unusedVariables false in
set_option maxHeartbeats 4000000 in
set_option maxRecDepth 100000 in
theorem give_any (a b sB : Nat) (cs p q : List Int) (f0 f1 : FuncId) (caps0 caps1 : Array Value) (k i : Nat) (c : Int) (w : World) (ha : a ≤ 64) (hb : b ≤ 64) (hp : p.length = 64) (hq : q.length = 64) (hk : k < 2) (hi : i < N2 a b k) (hc0 : 0 ≤ c) (hc15 : c ≤ 15)
    (hclo : Clo (N2 a b) (M2 a cs) (F2 p q)) (hval : ∀ k i, k < 2 → i < N2 a b k → -1 ≤ F2 p q k i ∧ F2 p q k i ≤ 15) (hm : ∀ k i j, k < 2 → i < N2 a b k → j < N2 a b (1 - k) → 0 ≤ M2 a cs k i j ∧ M2 a cs k i j ≤ 15)
    (hs : sB ≤ w.heap.size) (hS : StB w sB 77 a b (.func (.func f0) #[] caps0) (.func (.func f1) #[] caps1) p q)
    (hE0 : ∀ (args : Array Value) (w : World), (callFunc f0 args).run Try.prog w = .ok (.enter f0 args) w) (hE1 : ∀ (args : Array Value) (w : World), (callFunc f1 args).run Try.prog w = .ok (.enter f1 args) w)
    (hA0 : GivesA f0 caps0 a b (M2 a cs 0) sB w) (hA1 : GivesA f1 caps1 b a (M2 a cs 1) sB w) :
    Calls Try.prog 49 #[.pointer (some ⟨sB, 0, none⟩), .int .i64 k, .int .i64 i, .int .i64 c] w fun e w' => ∃ (r : Bool) (p' q' : List Int), e = .returned (.bool r) ∧ StB w' sB 77 a b (.func (.func f0) #[] caps0) (.func (.func f1) #[] caps1) p' q' ∧ p'.length = 64 ∧ q'.length = 64 ∧ Below sB w w' ∧
      ((r = true ∧ Given (N2 a b) (M2 a cs) (F2 p q) k i c (F2 p' q')) ∨ (r = false ∧ NoGive (N2 a b) (M2 a cs) (F2 p q) k i c)) := by
  have hsB : sB < w.heap.size := Blk.lt hS
  obtain ⟨ig, hig, hz0g, hz1g, hz2g⟩ := info_parts Try.infoGift
  have HG := Lib.hid (GInv.start hclo hval hk hi hc0 hc15)
  have HM := Lib.hid hm
  have H0 := Lib.hid hA0
  have H1 := Lib.hid hA1
  have HQ0 := Queue.new w w.heap.size 104 #[.int .i64 k, .int .i64 i, .int .i64 c] (Nat.le_refl _)
  have hB0 : Below sB w (w.alloc (.cells #[.int .i64 k, .int .i64 i, .int .i64 c] 104)) := (Below.refl _ _).alloc hs _
  have hS0 := Blk.alloc hS (.cells #[.int .i64 k, .int .i64 i, .int .i64 c] 104)
  clear hclo hval hm hA0 hA1 hS
  go_enter Try.func49, Try.ntmps49
  go_wp2_with fail
  go_loopw [9] (fun v wr => ∃ (ts : List (Nat × Nat × Int)) (p' q' : List Int), Queue wr w.heap.size 104 3 v ts.length (flatT ts) ∧ StB wr sB 77 a b (.func (.func f0) #[] caps0) (.func (.func f1) #[] caps1) p' q' ∧ p'.length = 64 ∧ q'.length = 64 ∧ Below sB w wr ∧
      GInv (N2 a b) (M2 a cs) (F2 p q) k i c (F2 p' q') ts ∧ 65 * (unset p' + unset q') + ts.length ≤ 8321)
    (fun v wr => 65 * muB wr sB + lenV v)
  case atStart => exact ⟨[(k, i, c)], p, q, HQ0, hS0, hp, hq, hB0, HG.out, by have h1 := unset_le p; have h2 := unset_le q; simp; omega⟩
  case round =>
    clear HQ0 hS0 hB0 HG
    obtain ⟨ts, p', q', HQ, hS, hp', hq', hB, HI, hbd⟩ := hrel
    rcases ts with _ | ⟨⟨k', i', c'⟩, rest⟩
    · obtain ⟨_, g, off, cap, cur, rfl, _⟩ := HQ
      go_wp2_with fail
      go_ret
      exact ⟨true, p', q', rfl, hS, hp', hq', hB, .inl ⟨rfl, HI.done⟩⟩
    · obtain ⟨g, off, cap, rfl, hcap, hcells⟩ := HQ.head
      have z0 := hcells 0 (.int .i64 k') (by omega) rfl
      have z1 := hcells 1 (.int .i64 i') (by omega) rfl
      have z2 := hcells 2 (.int .i64 c') (by omega) rfl
      rw [Nat.add_zero] at z0
      have HT := Lib.hid HQ.tail
      obtain ⟨r1, r2, r3, r4⟩ := HI.rng _ List.mem_cons_self
      simp only at r1 r2 r3 r4
      clear hcells HQ
      have hI := Lib.hid HI
      clear HI
      simp only [List.length_cons] at hbd hcap ⊢
      have hlg : g < wr.heap.size := by
        have := World.block_lt_of_cell? wr _ z0
        exact this
      have hi64 : i' < 64 := by
        have h2 := r2
        unfold N2 at h2
        split at h2 <;> omega
      have hk2 : k' = 0 ∨ k' = 1 := by omega
      by_cases hc1 : cap = 1
      all_goals
        have HQ := HT.out
        first | (rw [if_pos hc1, hc1, Nat.sub_self] at HQ) | rw [if_neg hc1] at HQ
        have HQ2 := Lib.hid HQ
        clear HQ HT
        rcases hk2 with rfl | rfl
        · have s1 := StB.cell hS (2 + i') (stL_p hp' hi64)
          have s2 := StB.cell hS 66 (stL_66 hp')
          have hfr := Blk.frozen hS (2 + i')
          have hx : F2 p' q' 0 i' = p'.getD i' (-1) := rfl
          have HX := Lib.hid hx
          clear hx
          have hv1 := (hI.out).val 0 i' (by omega) r2
          rw [HX.out] at hv1
          obtain ⟨x, hxe⟩ : ∃ x, p'.getD i' (-1) = x := ⟨_, rfl⟩
          rw [hxe] at s1 HX hv1
          have HXE := Lib.hid hxe
          clear hxe
          have hS1 := (Blk.alloc hS (.cells #[.int .i64 0, .int .i64 i', .int .i64 c'] 104)).drew
          have hQ1 := (HQ2.out.alloc (.cells #[.int .i64 0, .int .i64 i', .int .i64 c'] 104)).drew
          have hB1 := (hB.alloc (Nat.le_trans hs hB.size) (.cells #[.int .i64 0, .int .i64 i', .int .i64 c'] 104)).drew
          have hlS := Blk.lt hS
          by_cases h1 : x = c'
          · have e1 : (x == c') = true := by simpa using h1
            have hI2 := hI.out.skip (by rw [HX.out]; exact h1)
            go_wp2_with fail
            go_region
            go_wp2_with fail
            go_region
            go_wp2_with fail
            go_roundw
            case rel => exact ⟨rest, p', q', hQ1.drew, hS1.drew, hp', hq', hB1.drew, hI2, by omega⟩
            case measure => rw [muB_st hS1.drew, muB_st hS]; simp [lenV]
          · have e1 : (x == c') = false := by simpa using h1
            by_cases h2 : 0 ≤ x
            · have hI2 := hI.out.fail (by rw [HX.out]; exact h2) (by rw [HX.out]; exact h1)
              go_wp2_with fail
              go_region
              go_wp2_with fail
              go_region
              go_wp2_with fail
              go_region
              go_wp2_with fail
              go_ret
              exact ⟨false, p', q', rfl, hS1.drew.drew, hp', hq', hB1.drew.drew, .inr ⟨rfl, hI2⟩⟩
            · have hI2 := hI.out.set HM.out (by rw [HX.out]; omega)
              rw [f2_put0 (by omega)] at hI2
              go_wp2_with fail
              go_region
              go_wp2_with fail
              go_region
              go_wp2_with fail
              go_region
              go_wp2_with fail
              go_region
              go_wp2_with fail
              go_region
              go_wp2_with fail
              have hu2 := unset_set (l := p') (i := i') (c := c') (by omega) (by rw [HXE.out]; omega) r3
              obtain ⟨gq, hgq, hgq2, hgq3⟩ := HQ2.out.blk
              have hS9 := (Blk.alloc (StB.setp hS hp' hi64 c') (.cells #[.int .i64 0, .int .i64 i', .int .i64 c'] 104)).drew.drew.drew.drew.drew
              have hQ9 := ((HQ2.out.far (p := ⟨sB, 2 + i', none⟩) (by rw [hgq]; simp; omega) (.int .i64 c')).alloc (.cells #[.int .i64 0, .int .i64 i', .int .i64 c'] 104)).drew.drew.drew.drew.drew
              have hB9 := ((hB.setCell (p := ⟨sB, 2 + i', none⟩) (Nat.le_refl _) (.int .i64 c')).alloc (by have h9 := hB.size; simp [World.setCell]; omega) (.cells #[.int .i64 0, .int .i64 i', .int .i64 c'] 104)).drew.drew.drew.drew.drew
              have hG9 := (Blk.new (wr.setCell ⟨sB, 2 + i', none⟩ (.int .i64 c')) 104 #[.int .i64 0, .int .i64 i', .int .i64 c']).drew.drew.drew.drew.drew
              rw [show (wr.setCell ⟨sB, 2 + i', none⟩ (.int .i64 c')).heap.size = wr.heap.size by simp [World.setCell]] at hG9
              clear hS1 hQ1 hB1 hI s1 s2 hfr HX e1 h1 h2 z0 z1 z2
              obtain ⟨gB, hgB⟩ : ∃ x, x = wr.heap.size := ⟨_, rfl⟩
              have HGB := Lib.hid hgB
              clear hgB
              go_loopw [9, 67] (fun v jv wz => ∃ j : Nat, j ≤ b ∧ jv = .int .i64 j ∧ Queue wz w.heap.size 104 3 v (rest.length + (gifts (M2 a cs) 0 i' c' j).length) (flatT (rest ++ gifts (M2 a cs) 0 i' c' j)) ∧ v.ownBlock ≠ some wr.heap.size ∧ StB wz sB 77 a b (.func (.func f0) #[] caps0) (.func (.func f1) #[] caps1) (p'.set i' c') q' ∧ Blk wz wr.heap.size 104 #[.int .i64 0, .int .i64 i', .int .i64 c'] ∧ Below sB w wz)
                (fun _ jv _ => b - (intOf jv).toNat)
              case atStart => exact ⟨0, Nat.zero_le _, rfl, by rw [show gifts (M2 a cs) 0 i' c' 0 = [] from rfl, List.append_nil, List.length_nil, Nat.add_zero]; exact hQ9, by rw [hgq]; simp; omega, hS9, hG9, hB9⟩
              case round =>
                clear hQ9 hS9 hG9 hB9
                obtain ⟨j, hj, rfl, hQ, hnb, hT, hGf, hBz⟩ := hrel
                obtain ⟨g0, g1, g2⟩ := hGf.cell3
                have y0 := StB.cell hT 1 (stL_1)
                by_cases hlt : j < b
                · have r2' : i' < a := r2
                  have HC := Lib.hid (fun wz hz => H0.out wz i' j hz r2' hlt)
                  go_wp2_with fail
                  go_region_law
                    (first
                      | (go_simp
                         go_at_fn f0
                         refine (HC.out _ hBz.drew).mono ?_
                         rintro e wq ⟨rfl, hbq⟩)
                      | fail)
                  all_goals
                    have hG2 := (Blk.drew hGf).keep hbq
                    have hT2 : StB wq sB 77 a b (.func (.func f0) #[] caps0) (.func (.func f1) #[] caps1) (p'.set i' c') q' := Blk.keep (Blk.drew hT) hbq
                    have hQ2 := hQ.drew.keep hbq
                    have hB2 := hBz.drew.trans (hbq.mono (Nat.le_trans hs hBz.size))
                    clear g0 g1 g2 y0 hGf hT hQ hBz hbq HC
                    obtain ⟨g0, g1, g2⟩ := hG2.cell3
                    have hGS := Lib.hid (gifts_succ (m := M2 a cs) (k := 0) (i := i') (c := c') (j := j))
                    have hgl := gifts_len (m := M2 a cs) (k := 0) (i := i') (c := c') (J := j)
                    obtain ⟨d, hd⟩ : ∃ d, M2 a cs 0 i' j = d := ⟨_, rfl⟩
                    rw [hd] at hGS ⊢
                    clear hd
                    by_cases h1 : d = c'
                    · have e1 : (d != c') = false := by simp [h1]
                      have HE := hGS.out
                      rw [if_pos h1, List.append_nil] at HE
                      have HE2 := Lib.hid HE
                      clear HE hGS h1
                      go_wp2_with fail
                      go_roundw
                      case rel => exact ⟨j + 1, by omega, by go_num, by rw [HE2.out]; exact hQ2, hnb, hT2, hG2, hB2⟩
                      case measure => simp [intOf]; omega
                    · have e1 : (d != c') = true := by simp [h1]
                      have HE := hGS.out
                      rw [if_neg h1] at HE
                      have HE2 := Lib.hid HE
                      clear HE hGS h1
                      have hsz := hB2.size
                      go_wp2_with (at_builtin; go_loud (refine wpList_push rfl (.tmp 83) (.tmp 90) 105 rfl w.heap.size 104 3 ig _ 24 wq.heap.size _ _ _ [.int .i64 1, .int .i64 j, .int .i64 d] Try.underlying105 hig hz0g hz1g hz2g rfl (by decide) rfl rfl (hQ2.alloc _) (size_alloc_le hsz _) rfl (fun jj u hu => by rw [(Blk.new wq 104 #[.int .i64 1, .int .i64 j, .int .i64 d]).cell]; simpa using hu) (fun u hu => by simp at hu; rcases hu with rfl | rfl | rfl <;> rfl) (by omega) ?_))
                      intro v3 w3 hQ3 hgr3 hob
                      obtain ⟨gz, hgz, hgz2, _⟩ := hQ2.blk
                      have hG3 := (Blk.alloc hG2 (.cells #[.int .i64 1, .int .i64 j, .int .i64 d] 104)).grown hgr3 (fun e => hnb e.symm)
                      have hT3 : StB w3 sB 77 a b (.func (.func f0) #[] caps0) (.func (.func f1) #[] caps1) (p'.set i' c') q' := Blk.grown (Blk.alloc hT2 (.cells #[.int .i64 1, .int .i64 j, .int .i64 d] 104)) hgr3 (by rw [hgz]; simp; omega)
                      have hB3 := (hB2.alloc (by omega) (.cells #[.int .i64 1, .int .i64 j, .int .i64 d] 104)).grown hgr3 (by simp; omega) (fun kk hkk => by rw [hgz] at hkk; injection hkk with hkk; omega)
                      have hnb3 : v3.ownBlock ≠ some gB := by
                        rcases hob with e | e
                        · rw [e, HGB.out]; exact hnb
                        · rw [e, HGB.out]
                          have := hG2.lt
                          simp
                          omega
                      go_wp2_with fail
                      go_roundw
                      case rel => exact ⟨j + 1, by omega, by go_num, by rw [HE2.out, List.length_append]; simpa [flatT, List.flatMap_append, Nat.add_assoc] using hQ3, by rw [← HGB.out]; exact hnb3, hT3, hG3, hB3⟩
                      case measure => simp [intOf]; omega
                · obtain rfl : b = j := by omega
                  go_wp2_with fail
                  go_roundw
                  case rel => exact ⟨rest ++ gifts (M2 a cs) 0 i' c' b, (p'.set i' c'), q', by rw [List.length_append]; exact hQ, hT, by simpa using hp', by simpa using hq', hBz, hI2, by have := gifts_len (m := M2 a cs) (k := 0) (i := i') (c := c') (J := b); rw [List.length_append]; omega⟩
                  case measure =>
                    have := gifts_len (m := M2 a cs) (k := 0) (i := i') (c := c') (J := b)
                    rw [muB_st hT, muB_st hS]
                    obtain ⟨_, _, _, _, _, hv5, _⟩ := hQ
                    subst hv5
                    simp [lenV]
                    omega
        · have s1 := StB.cell hS (68 + i') (stL_q hp' hq' hi64)
          have s2 := StB.cell hS 0 (stL_0)
          have hfr := Blk.frozen hS (68 + i')
          have hx : F2 p' q' 1 i' = q'.getD i' (-1) := rfl
          have HX := Lib.hid hx
          clear hx
          have hv1 := (hI.out).val 1 i' (by omega) r2
          rw [HX.out] at hv1
          obtain ⟨x, hxe⟩ : ∃ x, q'.getD i' (-1) = x := ⟨_, rfl⟩
          rw [hxe] at s1 HX hv1
          have HXE := Lib.hid hxe
          clear hxe
          have hS1 := (Blk.alloc hS (.cells #[.int .i64 1, .int .i64 i', .int .i64 c'] 104)).drew
          have hQ1 := (HQ2.out.alloc (.cells #[.int .i64 1, .int .i64 i', .int .i64 c'] 104)).drew
          have hB1 := (hB.alloc (Nat.le_trans hs hB.size) (.cells #[.int .i64 1, .int .i64 i', .int .i64 c'] 104)).drew
          have hlS := Blk.lt hS
          by_cases h1 : x = c'
          · have e1 : (x == c') = true := by simpa using h1
            have hI2 := hI.out.skip (by rw [HX.out]; exact h1)
            go_wp2_with fail
            go_region
            go_wp2_with fail
            go_region
            go_wp2_with fail
            go_roundw
            case rel => exact ⟨rest, p', q', hQ1.drew, hS1.drew, hp', hq', hB1.drew, hI2, by omega⟩
            case measure => rw [muB_st hS1.drew, muB_st hS]; simp [lenV]
          · have e1 : (x == c') = false := by simpa using h1
            by_cases h2 : 0 ≤ x
            · have hI2 := hI.out.fail (by rw [HX.out]; exact h2) (by rw [HX.out]; exact h1)
              go_wp2_with fail
              go_region
              go_wp2_with fail
              go_region
              go_wp2_with fail
              go_region
              go_wp2_with fail
              go_ret
              exact ⟨false, p', q', rfl, hS1.drew.drew, hp', hq', hB1.drew.drew, .inr ⟨rfl, hI2⟩⟩
            · have hI2 := hI.out.set HM.out (by rw [HX.out]; omega)
              rw [f2_put1 (by omega)] at hI2
              go_wp2_with fail
              go_region
              go_wp2_with fail
              go_region
              go_wp2_with fail
              go_region
              go_wp2_with fail
              go_region
              go_wp2_with fail
              go_region
              go_wp2_with fail
              have hu2 := unset_set (l := q') (i := i') (c := c') (by omega) (by rw [HXE.out]; omega) r3
              obtain ⟨gq, hgq, hgq2, hgq3⟩ := HQ2.out.blk
              have hS9 := (Blk.alloc (StB.setq (i := i') hS hp' c') (.cells #[.int .i64 1, .int .i64 i', .int .i64 c'] 104)).drew.drew.drew.drew.drew
              have hQ9 := ((HQ2.out.far (p := ⟨sB, 68 + i', none⟩) (by rw [hgq]; simp; omega) (.int .i64 c')).alloc (.cells #[.int .i64 1, .int .i64 i', .int .i64 c'] 104)).drew.drew.drew.drew.drew
              have hB9 := ((hB.setCell (p := ⟨sB, 68 + i', none⟩) (Nat.le_refl _) (.int .i64 c')).alloc (by have h9 := hB.size; simp [World.setCell]; omega) (.cells #[.int .i64 1, .int .i64 i', .int .i64 c'] 104)).drew.drew.drew.drew.drew
              have hG9 := (Blk.new (wr.setCell ⟨sB, 68 + i', none⟩ (.int .i64 c')) 104 #[.int .i64 1, .int .i64 i', .int .i64 c']).drew.drew.drew.drew.drew
              rw [show (wr.setCell ⟨sB, 68 + i', none⟩ (.int .i64 c')).heap.size = wr.heap.size by simp [World.setCell]] at hG9
              clear hS1 hQ1 hB1 hI s1 s2 hfr HX e1 h1 h2 z0 z1 z2
              obtain ⟨gB, hgB⟩ : ∃ x, x = wr.heap.size := ⟨_, rfl⟩
              have HGB := Lib.hid hgB
              clear hgB
              go_loopw [9, 67] (fun v jv wz => ∃ j : Nat, j ≤ a ∧ jv = .int .i64 j ∧ Queue wz w.heap.size 104 3 v (rest.length + (gifts (M2 a cs) 1 i' c' j).length) (flatT (rest ++ gifts (M2 a cs) 1 i' c' j)) ∧ v.ownBlock ≠ some wr.heap.size ∧ StB wz sB 77 a b (.func (.func f0) #[] caps0) (.func (.func f1) #[] caps1) p' (q'.set i' c') ∧ Blk wz wr.heap.size 104 #[.int .i64 1, .int .i64 i', .int .i64 c'] ∧ Below sB w wz)
                (fun _ jv _ => a - (intOf jv).toNat)
              case atStart => exact ⟨0, Nat.zero_le _, rfl, by rw [show gifts (M2 a cs) 1 i' c' 0 = [] from rfl, List.append_nil, List.length_nil, Nat.add_zero]; exact hQ9, by rw [hgq]; simp; omega, hS9, hG9, hB9⟩
              case round =>
                clear hQ9 hS9 hG9 hB9
                obtain ⟨j, hj, rfl, hQ, hnb, hT, hGf, hBz⟩ := hrel
                obtain ⟨g0, g1, g2⟩ := hGf.cell3
                have y0 := StB.cell hT 67 (stL_67 hp')
                by_cases hlt : j < a
                · have r2' : i' < b := r2
                  have HC := Lib.hid (fun wz hz => H1.out wz i' j hz r2' hlt)
                  go_wp2_with fail
                  go_region_law
                    (first
                      | (go_simp
                         go_at_fn f1
                         refine (HC.out _ hBz.drew).mono ?_
                         rintro e wq ⟨rfl, hbq⟩)
                      | fail)
                  all_goals
                    have hG2 := (Blk.drew hGf).keep hbq
                    have hT2 : StB wq sB 77 a b (.func (.func f0) #[] caps0) (.func (.func f1) #[] caps1) p' (q'.set i' c') := Blk.keep (Blk.drew hT) hbq
                    have hQ2 := hQ.drew.keep hbq
                    have hB2 := hBz.drew.trans (hbq.mono (Nat.le_trans hs hBz.size))
                    clear g0 g1 g2 y0 hGf hT hQ hBz hbq HC
                    obtain ⟨g0, g1, g2⟩ := hG2.cell3
                    have hGS := Lib.hid (gifts_succ (m := M2 a cs) (k := 1) (i := i') (c := c') (j := j))
                    have hgl := gifts_len (m := M2 a cs) (k := 1) (i := i') (c := c') (J := j)
                    obtain ⟨d, hd⟩ : ∃ d, M2 a cs 1 i' j = d := ⟨_, rfl⟩
                    rw [hd] at hGS ⊢
                    clear hd
                    by_cases h1 : d = c'
                    · have e1 : (d != c') = false := by simp [h1]
                      have HE := hGS.out
                      rw [if_pos h1, List.append_nil] at HE
                      have HE2 := Lib.hid HE
                      clear HE hGS h1
                      go_wp2_with fail
                      go_roundw
                      case rel => exact ⟨j + 1, by omega, by go_num, by rw [HE2.out]; exact hQ2, hnb, hT2, hG2, hB2⟩
                      case measure => simp [intOf]; omega
                    · have e1 : (d != c') = true := by simp [h1]
                      have HE := hGS.out
                      rw [if_neg h1] at HE
                      have HE2 := Lib.hid HE
                      clear HE hGS h1
                      have hsz := hB2.size
                      go_wp2_with (at_builtin; go_loud (refine wpList_push rfl (.tmp 83) (.tmp 90) 105 rfl w.heap.size 104 3 ig _ 24 wq.heap.size _ _ _ [.int .i64 0, .int .i64 j, .int .i64 d] Try.underlying105 hig hz0g hz1g hz2g rfl (by decide) rfl rfl (hQ2.alloc _) (size_alloc_le hsz _) rfl (fun jj u hu => by rw [(Blk.new wq 104 #[.int .i64 0, .int .i64 j, .int .i64 d]).cell]; simpa using hu) (fun u hu => by simp at hu; rcases hu with rfl | rfl | rfl <;> rfl) (by omega) ?_))
                      intro v3 w3 hQ3 hgr3 hob
                      obtain ⟨gz, hgz, hgz2, _⟩ := hQ2.blk
                      have hG3 := (Blk.alloc hG2 (.cells #[.int .i64 0, .int .i64 j, .int .i64 d] 104)).grown hgr3 (fun e => hnb e.symm)
                      have hT3 : StB w3 sB 77 a b (.func (.func f0) #[] caps0) (.func (.func f1) #[] caps1) p' (q'.set i' c') := Blk.grown (Blk.alloc hT2 (.cells #[.int .i64 0, .int .i64 j, .int .i64 d] 104)) hgr3 (by rw [hgz]; simp; omega)
                      have hB3 := (hB2.alloc (by omega) (.cells #[.int .i64 0, .int .i64 j, .int .i64 d] 104)).grown hgr3 (by simp; omega) (fun kk hkk => by rw [hgz] at hkk; injection hkk with hkk; omega)
                      have hnb3 : v3.ownBlock ≠ some gB := by
                        rcases hob with e | e
                        · rw [e, HGB.out]; exact hnb
                        · rw [e, HGB.out]
                          have := hG2.lt
                          simp
                          omega
                      go_wp2_with fail
                      go_roundw
                      case rel => exact ⟨j + 1, by omega, by go_num, by rw [HE2.out, List.length_append]; simpa [flatT, List.flatMap_append, Nat.add_assoc] using hQ3, by rw [← HGB.out]; exact hnb3, hT3, hG3, hB3⟩
                      case measure => simp [intOf]; omega
                · obtain rfl : a = j := by omega
                  go_wp2_with fail
                  go_roundw
                  case rel => exact ⟨rest ++ gifts (M2 a cs) 1 i' c' a, p', (q'.set i' c'), by rw [List.length_append]; exact hQ, hT, by simpa using hp', by simpa using hq', hBz, hI2, by have := gifts_len (m := M2 a cs) (k := 1) (i := i') (c := c') (J := a); rw [List.length_append]; omega⟩
                  case measure =>
                    have := gifts_len (m := M2 a cs) (k := 1) (i := i') (c := c') (J := a)
                    rw [muB_st hT, muB_st hS]
                    obtain ⟨_, _, _, _, _, hv5, _⟩ := hQ
                    subst hv5
                    simp [lenV]
                    omega
end Go.Proofs.Ytmajmbfbnchbfaa
