/- Parts of the proof, in their order. -/
import Derived.Test.YtefeghpglacghaaViewz
import Derived.Test.YtefeghpglacghaaThrz
import Derived.Test.YtefeghpglacghaaMg2z
import Derived.Test.YtefeghpglacghaaImz
import Derived.Lib.SliceRun
import Derived.Test.YtefeghpglacghaaStz
import Derived.BigQuiet
import Derived.Outline
/- colour.Front: the side that is seen. -/
namespace Go.Proofs.Ytefeghpglacghaa
open Go.RowKit

set_option maxHeartbeats 1000000 in
theorem front_any (g : Gd) (p q : List Int) (A Ap Aq : Option Addr) (n c np cp nq cq : Nat) (w : World) (hr : Rd w A n (g.bits.map Value.bool)) (hrp : Rd w Ap np (p.map (Value.int .i64))) (hrq : Rd w Aq nq (q.map (Value.int .i64))) :
    Calls Try.prog 37 #[.agg #[.int .i64 g.w, .int .i64 g.h, .slice A n c], .slice Ap np cp, .slice Aq nq cq] w (RetI (frontI g p q) w) := by
  have lb : g.bits.length = n := by simpa using hr.len
  have lp : p.length = np := by simpa using hrp.len
  have lq : q.length = nq := by simpa using hrq.len
  have S0 := (((((((St.start w).addRd hr).addRd hrp).addRd hrq).box #[.int .i64 g.w, .int .i64 g.h, .slice A n c] 40).box #[.slice Ap np cp] 22).box #[.slice Aq nq cq] 22).box #[.int .i64 0, .int .i64 0, .slice none 0 0] 24
  simp only [size_alloc1, List.nil_append, List.cons_append] at S0
  obtain ⟨c0, c1, c2⟩ := (S0.blk 3 rfl).cell3
  have cp0 := (S0.blk 4 rfl).cell 0
  have cq0 := (S0.blk 5 rfl).cell 0
  have HT := Lib.hid (thr_any g p q A Ap Aq n c np cp nq cq _ lb (S0.rd 1 rfl) (S0.rd 2 rfl))
  by_cases h0 : thr g p q = 0
  · obtain ⟨a, b, bs, rfl, ha1, ha, hb1, hb, hl, hpa, hqb, _, _⟩ := thr_open h0
    have HC := Lib.hid (frontI_mk h0)
    rw [h0] at HT
    simp only at lb lp lq HT S0 c0 c1 c2 ⊢
    obtain rfl : n = b * a := by omega
    obtain rfl : np = a := by omega
    obtain rfl : nq = b := by omega
    clear h0 lb lp lq hl hpa hqb hr hrp hrq
    have hE := Proofs.enters_of Try.func67 (by kernel_rfl) rfl
    go_enter Try.func37, Try.ntmps37
    go_wp2_with fail
    refine HT.out.mono ?_
    rintro e w1 ⟨rfl, hb1⟩
    have S1 := S0.keep hb1
    clear c0 c1 c2 cp0 cq0 HT
    obtain ⟨c0, c1, c2⟩ := (S1.blk 3 rfl).cell3
    go_wp2_with fail
    refine (image_any 67 _ _ _ _ w1 ha hb hE (front1_gives _ _ _ _ _ A Ap Aq c cp cq bs p q w1 ha hb (S1.blk 3 rfl) (S1.blk 4 rfl) (S1.blk 5 rfl) (S1.rd 0 rfl) (S1.rd 1 rfl) (S1.rd 2 rfl))).mono ?_
    rintro e w2 ⟨A2, n2, c2', rfl, hown2, hb2⟩
    simp only at hown2 ⊢
    have S2 := S1.keep hb2
    have hR2 := S2.blk 6 rfl
    obtain ⟨r0, r1, r2⟩ := hR2.cell3
    obtain ⟨f0, f1, f2⟩ := hR2.frozen3
    obtain ⟨q0, q1, q2⟩ := (hR2.set3 (.int .i64 np) (.int .i64 nq) (.slice A2 n2 c2')).cell3
    clear c0 c1 c2
    go_wp2_with fail
    refine bodyPost_ret (v := .tuple #[.agg #[.int .i64 np, .int .i64 nq, .slice A2 n2 c2'], .int .i64 0]) (by simp [results, Try.results37, go_sem, q0, q1, q2]) rfl ?_
    refine ⟨A2, n2, c2', by rw [HC.out], ?_, below_set3 S2.below (by omega) _ _ _⟩
    rw [HC.out]
    exact own_set3 (own_base hown2 S1.size) hR2 (by decide) _ _ _
  · have hcb : (thr g p q != 0) = true := by simpa using h0
    have HC : Hid (frontI g p q = (Im.zero, thr g p q)) := withThr_bad h0 _
    clear h0 lb lp lq
    generalize thr g p q = t at *
    go_enter Try.func37, Try.ntmps37
    go_wp2_with fail
    refine HT.out.mono ?_
    rintro e w1 ⟨rfl, hb1⟩
    have S1 := S0.keep hb1
    clear c0 c1 c2 cp0 cq0 HT
    have hR2 := S1.blk 6 rfl
    obtain ⟨r0, r1, r2⟩ := hR2.cell3
    obtain ⟨f0, f1, f2⟩ := hR2.frozen3
    obtain ⟨q0, q1, q2⟩ := (hR2.set3 (.int .i64 0) (.int .i64 0) (.slice none 0 0)).cell3
    go_wp2_with fail
    refine bodyPost_ret (v := .tuple #[.agg #[.int .i64 0, .int .i64 0, .slice none 0 0], .int .i64 t]) (by simp [results, Try.results37, go_sem, q0, q1, q2]) rfl ?_
    exact bad_retI HC.out (below_set3 S1.below (by omega) _ _ _)

end Go.Proofs.Ytefeghpglacghaa
/- slices.Clone of ints: the same numbers in new memory. -/
namespace Go.Proofs.Ytefeghpglacghaa
open Go.RowKit

set_option maxHeartbeats 4000000 in
set_option maxRecDepth 100000 in
theorem clone_any (ad : Addr) (n c : Nat) (xs : List Int) (w : World) (hr : Rd w (some ad) n (xs.map (Value.int .i64))) (hn : n ≤ 1048576) :
    Calls Try.prog 47 #[.slice (some ad) n c] w fun e w' => ∃ A' c', e = .returned (.slice A' n c') ∧ w'.ownsRow w.heap.size 3 1 (.slice A' n c') n (xs.map (Value.int .i64)) ∧ Below w.heap.size w w' := by
  obtain ⟨i0, hi, hz0, hz1, hz2⟩ := info_parts Try.infoI
  have hown0 : (w.alloc (.cells #[] 3)).drew.ownsRow w.heap.size 3 1 (.slice (some ⟨w.heap.size, 0, none⟩) 0 0) 0 [] := World.ownsRow_lit w #[] 0 (by omega) (Nat.zero_le _) rfl
  have hr0 : Rd (w.alloc (.cells #[] 3)).drew (some ad) n (xs.map (Value.int .i64)) := (hr.alloc _).drew
  have q22 : ∀ (w : World) (a : Option Addr) (n c n' c' : Nat), (binOp .eql 22 (.slice a n c) (.slice none n' c')).run Try.prog w = .ok (.bool a.isNone) w := fun w a n c n' c' => Lib.run_eql_slice_nil w _ _ a n c n' c' Try.underlying22
  have hB0 : Below w.heap.size w (w.alloc (.cells #[] 3)) := (Below.refl _ _).alloc (Nat.le_refl _) _
  go_enter Try.func47, Try.ntmps47
  go_wp2_with (first
    | (at_builtin; go_loud (refine wpList_app_all _ rfl (.tmp 5) (.tmp 6) 22 rfl w.heap.size 3 i0 (.int .i64 0) 8 Try.underlying22 hi hz0 hz1 hz2 rfl (by decide) (.slice (some ⟨w.heap.size, 0, none⟩) 0 0) 0 [] rfl hown0 (some ad) n c _ rfl hr0 (oneCell_ints xs) (by omega) (by simp) ?_))
    | fail)
  intro A' c' w' hown hgr
  go_wp2_with fail
  go_ret
  exact ⟨A', c', rfl, hown, hB0.grown hgr (by simp) (fun k hk => by simp [Value.ownBlock] at hk; omega)⟩
end Go.Proofs.Ytefeghpglacghaa
/- raddleref02.Same of two lists that read the same. -/
namespace Go.Proofs.Ytefeghpglacghaa
open Go.RowKit

set_option maxHeartbeats 1000000 in
theorem lsame_any (xs : List Int) (A A' : Option Addr) (n n' c c' : Nat) (w : World) (hr : Rd w A n (xs.map (Value.int .i64))) (hr' : Rd w A' n' (xs.map (Value.int .i64))) (hn : n ≤ 1048576) :
    Calls Try.prog 15 #[.slice A n c, .slice A' n' c'] w fun e w' => e = .returned (.bool true) ∧ Below w.heap.size w w' := by
  have e1 := hr.len
  have e2 := hr'.len
  obtain rfl : n' = n := by omega
  clear e2
  have HN := Lib.hid e1
  clear e1
  go_enter Try.func15, Try.ntmps15
  go_wp2_with fail
  go_loopw [5] (fun i wr => ∃ x : Nat, x ≤ n' ∧ i = .int .i64 x ∧ Below w.heap.size w wr) (fun i _ => n' - (intOf i).toNat)
  case atStart => exact ⟨0, Nat.zero_le _, rfl, Below.refl _ _⟩
  case round =>
    obtain ⟨x, hx, rfl, hb⟩ := hrel
    by_cases hlt : x < n'
    · obtain ⟨b, o, hA, _, hc⟩ := (hr.below hb).at_ (by omega)
      obtain ⟨b', o', hA', _, hc'⟩ := (hr'.below hb).at_ (by omega)
      have hl : xs.length = n' := by have := HN.out; simpa using this
      have g0 := hc x (.int .i64 (xs.getD x 0)) (by rw [List.getElem?_map, List.getElem?_eq_getElem (by omega)]; simp [List.getD, show x < xs.length by omega])
      have g1 := hc' x (.int .i64 (xs.getD x 0)) (by rw [List.getElem?_map, List.getElem?_eq_getElem (by omega)]; simp [List.getD, show x < xs.length by omega])
      generalize xs.getD x 0 = z at *
      clear hc hc' hr hr' hl
      rw [hA, hA']
      clear hA hA'
      go_wp2_with fail
      go_quiet (fail)
      go_wp2_with fail
      go_roundw
      case rel => exact ⟨x + 1, by omega, by go_num, below_drewN hb _⟩
      case measure => simp [intOf]; omega
    · go_wp2_with fail
      go_ret
      exact ⟨rfl, hb⟩
end Go.Proofs.Ytefeghpglacghaa
