/- raddleref15.Cells: two grids, filled column by column. -/
import Derived.Test.YtefeghpglacghaaThr15
import Derived.Test.YtefeghpglacghaaFits15
import Derived.Test.YtefeghpglacghaaTwo
import Derived.Test.YtefeghpglacghaaZwo
import Derived.Test.YtefeghpglacghaaMan3
import Derived.Test.YtefeghpglacghaaPut
import Derived.Test.YtefeghpglacghaaRCell
import Derived.Test.YtefeghpglacghaaFill
import Derived.Deep.DeepCutAuto
namespace Go.Proofs.Ytefeghpglacghaa
open Go.RowKit

set_option linter.unusedSimpArgs false in
set_option linter.unusedVariables false in
set_option maxHeartbeats 40000000 in
set_option maxRecDepth 100000 in
theorem rcells_pair (a b : Nat) (cs p q : List Int) (A Ap Aq : Option Addr) (c cp cq : Nat) (w : World) (ha1 : 1 ≤ a) (ha : a ≤ 64) (hb1 : 1 ≤ b) (hb : b ≤ 64)
    (hr : Rd w A (b * a) (cs.map (Value.int .i64))) (hrp : Rd w Ap a (p.map (Value.int .i64))) (hrq : Rd w Aq b (q.map (Value.int .i64)))
    (HT : Hid (∀ W : World, Below w.heap.size w W → Calls Try.prog 35 #[.agg #[.int .i64 a, .int .i64 b, .slice A (b * a) c], .slice Ap a cp, .slice Aq b cq] W fun e w' => e = .returned (.int .i64 0) ∧ Below W.heap.size W w'))
    (HFI : Hid (∀ W : World, Below w.heap.size w W → Calls Try.prog 36 #[.agg #[.int .i64 a, .int .i64 b, .slice A (b * a) c], .slice Ap a cp, .slice Aq b cq] W fun e w' => e = .returned (.bool true) ∧ Below W.heap.size W w')) :
    Calls Try.prog 22 #[.agg #[.int .i64 a, .int .i64 b, .slice A (b * a) c], .slice Ap a cp, .slice Aq b cq] w (RetC ((⟨a, b, Pl.tab a b (upF a cs q)⟩, ⟨a, b, Pl.tab a b (openF a cs p q)⟩), 0) w) := by
  have hpos : 0 < b * a := Nat.mul_pos hb1 ha1
  have LP := Lib.hid (show p.length = a by simpa using hrp.len)
  have LQ := Lib.hid (show q.length = b by simpa using hrq.len)
  have HAT := Lib.hid (fun x y z WW h hx hy hh => atI_to a b x y (x : Int) (y : Int) cs (b : Int) A c WW (v := z) h rfl rfl ha hb hx hy hh)
  obtain ⟨bp, op, hAp, _, hcp⟩ := hrp.at_ (by omega)
  obtain ⟨bq, oq, hAq, _, hcq⟩ := hrq.at_ (by omega)
  have HKP := Lib.hid (fun x (hx : x < a) wz (hz : Below w.heap.size w wz) => show wz.cell? ⟨bp, op + x, none⟩ = some (.int .i64 (p.getD x 0)) from by
    have g1 := hcp x (.int .i64 (p.getD x 0)) (by have := LP.out; rw [List.getElem?_map, get_d (by omega)]; rfl)
    exact (hz.cell (World.block_lt_of_cell? w _ g1)).trans g1)
  have HKQ := Lib.hid (fun y (hy : y < b) wz (hz : Below w.heap.size w wz) => show wz.cell? ⟨bq, oq + y, none⟩ = some (.int .i64 (q.getD y 0)) from by
    have g1 := hcq y (.int .i64 (q.getD y 0)) (by have := LQ.out; rw [List.getElem?_map, get_d (by omega)]; rfl)
    exact (hz.cell (World.block_lt_of_cell? w _ g1)).trans g1)
  have HR := Lib.hid (fun wz (hz : Below w.heap.size w wz) => show Rd wz A (b * a) (cs.map (Value.int .i64)) from hr.below hz)
  subst hAp hAq
  have S0 := (((St.start w).box #[.int .i64 a, .int .i64 b, .slice A (b * a) c] 24).box #[.int .i64 0, .int .i64 0, .slice none 0 0] 40).box #[.int .i64 0, .int .i64 0, .slice none 0 0] 40
  simp only [size_alloc1, List.nil_append, List.cons_append] at S0
  obtain ⟨c0, c1, c2⟩ := (S0.blk 0 rfl).cell3
  clear hr hrp hrq hcp hcq LP LQ
  go_enter Try.func22, Try.ntmps22
  go_wp2_with fail
  refine (HT.out _ S0.below).mono ?_
  rintro e w1 ⟨rfl, hb1'⟩
  have S := S0.keep hb1'
  clear S0 c0 c1 c2
  obtain ⟨c0, c1, c2⟩ := (S.blk 0 rfl).cell3
  go_wp2_with fail
  refine (HFI.out _ S.below).mono ?_
  rintro e w2 ⟨rfl, hb2'⟩
  replace S := S.keep hb2'
  clear c0 c1 c2 hb1' hb2'
  obtain ⟨c0, c1, c2⟩ := (S.blk 0 rfl).cell3
  go_upto_region 5 with fail
  go_cut [9, 10] (fun s9 s10 wx => ∃ g1 g2 r1 r2 k1 k2 : Nat, s9 = .pointer (some ⟨g1, 0, none⟩) ∧ s10 = .pointer (some ⟨g2, 0, none⟩) ∧ Zwo w.heap.size wx g1 g2 r1 r2 k1 k2 a b (List.replicate (b * a) false) (List.replicate (b * a) false) ∧ St w [.blk w.heap.size 24 #[.int .i64 a, .int .i64 b, .slice A (b * a) c], .blk (w.heap.size + 1) 40 #[.int .i64 0, .int .i64 0, .slice none 0 0], .blk (w.heap.size + 1 + 1) 40 #[.int .i64 0, .int .i64 0, .slice none 0 0]] wx)
  case first =>
    clear c0 c1 c2 HT HFI HAT HKP HKQ HR
    have hx0 := S.size
    have hx1 := (S.blk 0 rfl).lt
    have hx2 := (S.blk 1 rfl).lt
    have hx3 := (S.blk 2 rfl).lt
    have SD := S.drew
    clear S
    have hxd : w2.drew.heap.size = w2.heap.size := rfl
    rw [← hxd] at hx0 hx1 hx2 hx3
    clear hxd
    refine wp_region_held_drew (S := (fun w' => w'.cell? ⟨w.heap.size, 0, none⟩ = some (.int .i64 a) ∧ w'.cell? ⟨w.heap.size, 1, none⟩ = some (.int .i64 b))) (by kernel_rfl) ?_ (fun hHeld => ?_)
    · (try dsimp only); exact ⟨(SD.blk 0 rfl).cell3.1, (SD.blk 0 rfl).cell3.2.1⟩
    generalize w2.drew = wd at *
    refine man_take 0 32 (v := ?_) ⟨_, rfl, rfl⟩ (by kernel_rfl) (by kernel_rfl) (by kernel_rfl) (fun _ _ _ h => h) (by assumption) ?_ ?_
    rotate_left
    · intro oi ho; cases ho; refine ⟨by rfl, ?_⟩; intro w hSw; (try dsimp only at hSw); go_simp; try with_reducible rfl
    (try simp only [Act.put, List.setIfInBounds_toArray, List.set_cons_zero, List.set_cons_succ])
    refine man_take 1 33 (v := ?_) ⟨_, rfl, rfl⟩ (by kernel_rfl) (by kernel_rfl) (by kernel_rfl) (fun _ _ _ h => h) (by assumption) ?_ ?_
    rotate_left
    · intro oi ho; cases ho; refine ⟨by rfl, ?_⟩; intro w hSw; (try dsimp only at hSw); go_simp; try with_reducible rfl
    (try simp only [Act.put, List.setIfInBounds_toArray, List.set_cons_zero, List.set_cons_succ])
    refine man_take 2 34 (v := ?_) ⟨_, rfl, rfl⟩ (by kernel_rfl) (by kernel_rfl) (by kernel_rfl) (fun _ _ _ h => h) (by assumption) ?_ ?_
    rotate_left
    · intro oi ho; cases ho; refine ⟨by rfl, ?_⟩; intro w hSw; (try dsimp only at hSw); go_simp; try with_reducible rfl
    (try simp only [Act.put, List.setIfInBounds_toArray, List.set_cons_zero, List.set_cons_succ])
    refine man_take 3 35 (v := ?_) ⟨_, rfl, rfl⟩ (by kernel_rfl) (by kernel_rfl) (by kernel_rfl) (fun _ _ _ h => h) (by assumption) ?_ ?_
    rotate_left
    · intro oi ho; cases ho; refine ⟨by rfl, ?_⟩; intro w hSw; (try dsimp only at hSw); go_simp; try with_reducible rfl
    (try simp only [Act.put, List.setIfInBounds_toArray, List.set_cons_zero, List.set_cons_succ])
    refine man_take 5 37 (v := ?_) ⟨_, rfl, rfl⟩ (by kernel_rfl) (by kernel_rfl) (by kernel_rfl) (fun _ _ _ h => h) (by assumption) ?_ ?_
    rotate_left
    · intro oi ho; cases ho; refine ⟨by rfl, ?_⟩; intro w hSw; (try dsimp only at hSw); go_simp; try with_reducible rfl
    (try simp only [Act.put, List.setIfInBounds_toArray, List.set_cons_zero, List.set_cons_succ])
    refine man_take 6 38 (v := ?_) ⟨_, rfl, rfl⟩ (by kernel_rfl) (by kernel_rfl) (by kernel_rfl) (fun _ _ _ h => h) (by assumption) ?_ ?_
    rotate_left
    · intro oi ho; cases ho; refine ⟨by rfl, ?_⟩; intro w hSw; (try dsimp only at hSw); go_simp; try with_reducible rfl
    (try simp only [Act.put, List.setIfInBounds_toArray, List.set_cons_zero, List.set_cons_succ])
    refine man_take 7 39 (v := ?_) ⟨_, rfl, rfl⟩ (by kernel_rfl) (by kernel_rfl) (by kernel_rfl) (fun _ _ _ h => h) (by assumption) ?_ ?_
    rotate_left
    · intro oi ho; cases ho; refine ⟨by rfl, ?_⟩; intro w hSw; (try dsimp only at hSw); go_simp; try with_reducible rfl
    (try simp only [Act.put, List.setIfInBounds_toArray, List.set_cons_zero, List.set_cons_succ])
    refine man_take 8 40 (v := ?_) ⟨_, rfl, rfl⟩ (by kernel_rfl) (by kernel_rfl) (by kernel_rfl) (fun _ _ _ h => h) (by assumption) ?_ ?_
    rotate_left
    · intro oi ho; cases ho; refine ⟨by rfl, ?_⟩; intro w hSw; (try dsimp only at hSw); go_simp; try with_reducible rfl
    (try simp only [Act.put, List.setIfInBounds_toArray, List.set_cons_zero, List.set_cons_succ])
    refine man_three 4 10 11 rfl rfl rfl (by kernel_rfl) (fun K hK => ?_) (fun K hK => ?_) (fun K hK => ?_)
    · go_simp
      refine (zero_any a b _ ha hb).mono ?_
      rintro e wz4 ⟨B4, m4, k4, rfl, hown4, hb4⟩
      have hs4 := hb4.size
      have hw4 := SD.size
      replace SD := SD.keep hb4
      have hm4 : m4 = b * a := by have h1 := hown4.1; simp at h1; omega
      subst hm4
      obtain ⟨r1, rfl, hl1, hu1, hk1⟩ := own_form hown4 hpos
      have ho1 := own_base hown4 hw4
      clear hown4
      go_wp2_with fail
      refine hK.out _ _ ?_ (fun hHeld => ?_)
      · (try dsimp only); exact ⟨(SD.blk 0 rfl).cell3.1, (SD.blk 0 rfl).cell3.2.1⟩
      clear hK K
      (try simp only [Act.put, List.setIfInBounds_toArray, List.set_cons_zero, List.set_cons_succ])
      refine man_three 9 10 11 rfl rfl rfl (by kernel_rfl) (fun K hK => ?_) (fun K hK => ?_) (fun K hK => ?_)
      · go_simp
        refine (zero_any a b _ ha hb).mono ?_
        rintro e wz9 ⟨B9, m9, k9, rfl, hown9, hb9⟩
        have hs9 := hb9.size
        have hw9 := SD.size
        replace SD := SD.keep hb9
        replace ho1 := own_below ho1 hb9
        have hm9 : m9 = b * a := by have h1 := hown9.1; simp at h1; omega
        subst hm9
        obtain ⟨r2, rfl, hl2, hu2, hk2⟩ := own_form hown9 hpos
        have ho2 := own_base hown9 hw9
        clear hown9
        go_wp2_with fail
        refine hK.out _ _ ?_ (fun hHeld => ?_)
        · (try dsimp only); exact ⟨(SD.blk 0 rfl).cell3.1, (SD.blk 0 rfl).cell3.2.1⟩
        clear hK K
        (try simp only [Act.put, List.setIfInBounds_toArray, List.set_cons_zero, List.set_cons_succ])
        refine man_two 10 11 rfl rfl (by kernel_rfl) (fun K hK => ?_) (fun K hK => ?_)
        · go_simp
          have hz10 := size_alloc1 wz9 (.cells #[.int .i64 0, .int .i64 0, .slice none 0 0] 40)
          replace SD := SD.box #[.int .i64 0, .int .i64 0, .slice none 0 0] 40
          simp only [List.nil_append, List.cons_append] at SD
          replace ho1 := ho1.alloc (.cells #[.int .i64 0, .int .i64 0, .slice none 0 0] 40)
          replace ho2 := ho2.alloc (.cells #[.int .i64 0, .int .i64 0, .slice none 0 0] 40)
          generalize wz9.alloc (.cells #[.int .i64 0, .int .i64 0, .slice none 0 0] 40) = wz10 at *
          refine hK.out _ _ ?_ (fun hHeld => ?_)
          · (try dsimp only); exact ⟨(SD.blk 0 rfl).cell3.1, (SD.blk 0 rfl).cell3.2.1⟩
          clear hK K
          (try simp only [Act.put, List.setIfInBounds_toArray, List.set_cons_zero, List.set_cons_succ])
          refine man_run 11 rfl (by kernel_rfl) (fun K hK => ?_)
          go_simp
          have hz11 := size_alloc1 wz10 (.cells #[.int .i64 0, .int .i64 0, .slice none 0 0] 40)
          replace SD := SD.box #[.int .i64 0, .int .i64 0, .slice none 0 0] 40
          simp only [List.nil_append, List.cons_append] at SD
          rw [hz10] at hz11
          simp only [hz10] at SD
          replace ho1 := ho1.alloc (.cells #[.int .i64 0, .int .i64 0, .slice none 0 0] 40)
          replace ho2 := ho2.alloc (.cells #[.int .i64 0, .int .i64 0, .slice none 0 0] 40)
          generalize wz10.alloc (.cells #[.int .i64 0, .int .i64 0, .slice none 0 0] 40) = wz11 at *
          refine hK.out _ _ ?_ (fun hHeld => ?_)
          · (try dsimp only); exact ⟨(SD.blk 0 rfl).cell3.1, (SD.blk 0 rfl).cell3.2.1⟩
          clear hK K
          (try simp only [Act.put, List.setIfInBounds_toArray, List.set_cons_zero, List.set_cons_succ])
          refine man_run 12 rfl (by kernel_rfl) (fun K hK => ?_)
          obtain ⟨y110, y111, y112⟩ := (SD.blk 4 rfl).cell3
          obtain ⟨x110, x111, x112⟩ := (SD.blk 4 rfl).frozen3
          have hB := SD.blk 3 rfl
          obtain ⟨z0, z1, z2⟩ := hB.cell3
          obtain ⟨f0, f1, f2⟩ := hB.frozen3
          go_simp
          clear z0 z1 z2 f0 f1 f2
          replace ho1 := own_set3 ho1 hB (by decide) (.int .i64 a) (.int .i64 b) (.slice (some ⟨r1, 0, none⟩) (b * a) k4)
          replace ho2 := own_set3 ho2 hB (by decide) (.int .i64 a) (.int .i64 b) (.slice (some ⟨r1, 0, none⟩) (b * a) k4)
          have SQ := ((SD.sub (L' := [.blk (w.heap.size) 24 #[.int .i64 a, .int .i64 b, .slice A (b * a) c], .blk ((w.heap.size + 1)) 40 #[.int .i64 0, .int .i64 0, .slice none 0 0], .blk ((w.heap.size + 1 + 1)) 40 #[.int .i64 0, .int .i64 0, .slice none 0 0], .blk ((wz9.heap.size + 1)) 40 #[.int .i64 0, .int .i64 0, .slice none 0 0]]) (by simp)).put3 (bb := wz9.heap.size) (by omega) hB ⟨(by show _ ≠ _; omega), (by show _ ≠ _; omega), (by show _ ≠ _; omega), (by show _ ≠ _; omega), trivial⟩ a b (some ⟨r1, 0, none⟩) (b * a) k4).addBlk (hB.set3 (.int .i64 a) (.int .i64 b) (.slice (some ⟨r1, 0, none⟩) (b * a) k4))
          simp only [List.nil_append, List.cons_append] at SQ
          replace SD := SQ
          clear hB SQ
          refine hK.out _ _ ?_ (fun hHeld => ?_)
          · (try dsimp only); exact ⟨(SD.blk 0 rfl).cell3.1, (SD.blk 0 rfl).cell3.2.1⟩
          clear hK K
          (try simp only [Act.put, List.setIfInBounds_toArray, List.set_cons_zero, List.set_cons_succ])
          refine man_run 13 rfl (by kernel_rfl) (fun K hK => ?_)
          have hB := SD.blk 3 rfl
          obtain ⟨z0, z1, z2⟩ := hB.cell3
          obtain ⟨f0, f1, f2⟩ := hB.frozen3
          go_simp
          clear z0 z1 z2 f0 f1 f2
          replace ho1 := own_set3 ho1 hB (by decide) (.int .i64 a) (.int .i64 b) (.slice (some ⟨r2, 0, none⟩) (b * a) k9)
          replace ho2 := own_set3 ho2 hB (by decide) (.int .i64 a) (.int .i64 b) (.slice (some ⟨r2, 0, none⟩) (b * a) k9)
          have SQ := ((SD.sub (L' := [.blk (w.heap.size) 24 #[.int .i64 a, .int .i64 b, .slice A (b * a) c], .blk ((w.heap.size + 1)) 40 #[.int .i64 0, .int .i64 0, .slice none 0 0], .blk ((w.heap.size + 1 + 1)) 40 #[.int .i64 0, .int .i64 0, .slice none 0 0], .blk (wz9.heap.size) 40 #[.int .i64 a, .int .i64 b, .slice (some ⟨r1, 0, none⟩) (b * a) k4]]) (by simp)).put3 (bb := (wz9.heap.size + 1)) (by omega) hB ⟨(by show _ ≠ _; omega), (by show _ ≠ _; omega), (by show _ ≠ _; omega), (by show _ ≠ _; omega), trivial⟩ a b (some ⟨r2, 0, none⟩) (b * a) k9).addBlk (hB.set3 (.int .i64 a) (.int .i64 b) (.slice (some ⟨r2, 0, none⟩) (b * a) k9))
          simp only [List.nil_append, List.cons_append] at SQ
          replace SD := SQ
          clear hB SQ
          refine hK.out _ _ ?_ (fun hHeld => ?_)
          · (try dsimp only); exact ⟨(SD.blk 0 rfl).cell3.1, (SD.blk 0 rfl).cell3.2.1⟩
          clear hK K
          (try simp only [Act.put, List.setIfInBounds_toArray, List.set_cons_zero, List.set_cons_succ])
          refine wpAnyH_done (by kernel_rfl) ?_ _
          go_wp2_with fail
          go_meet
          exact ⟨_, _, r1, r2, k4, k9, rfl, rfl, ⟨SD.blk 3 rfl, SD.blk 4 rfl, ho1, ho2, by omega, by omega, by omega, by omega⟩, SD.sub (L' := [.blk w.heap.size 24 #[.int .i64 a, .int .i64 b, .slice A (b * a) c], .blk (w.heap.size + 1) 40 #[.int .i64 0, .int .i64 0, .slice none 0 0], .blk (w.heap.size + 1 + 1) 40 #[.int .i64 0, .int .i64 0, .slice none 0 0]]) (by simp)⟩
        · go_simp
          have hz11 := size_alloc1 wz9 (.cells #[.int .i64 0, .int .i64 0, .slice none 0 0] 40)
          replace SD := SD.box #[.int .i64 0, .int .i64 0, .slice none 0 0] 40
          simp only [List.nil_append, List.cons_append] at SD
          replace ho1 := ho1.alloc (.cells #[.int .i64 0, .int .i64 0, .slice none 0 0] 40)
          replace ho2 := ho2.alloc (.cells #[.int .i64 0, .int .i64 0, .slice none 0 0] 40)
          generalize wz9.alloc (.cells #[.int .i64 0, .int .i64 0, .slice none 0 0] 40) = wz11 at *
          refine hK.out _ _ ?_ (fun hHeld => ?_)
          · (try dsimp only); exact ⟨(SD.blk 0 rfl).cell3.1, (SD.blk 0 rfl).cell3.2.1⟩
          clear hK K
          (try simp only [Act.put, List.setIfInBounds_toArray, List.set_cons_zero, List.set_cons_succ])
          refine man_run 10 rfl (by kernel_rfl) (fun K hK => ?_)
          go_simp
          have hz10 := size_alloc1 wz11 (.cells #[.int .i64 0, .int .i64 0, .slice none 0 0] 40)
          replace SD := SD.box #[.int .i64 0, .int .i64 0, .slice none 0 0] 40
          simp only [List.nil_append, List.cons_append] at SD
          rw [hz11] at hz10
          simp only [hz11] at SD
          replace ho1 := ho1.alloc (.cells #[.int .i64 0, .int .i64 0, .slice none 0 0] 40)
          replace ho2 := ho2.alloc (.cells #[.int .i64 0, .int .i64 0, .slice none 0 0] 40)
          generalize wz11.alloc (.cells #[.int .i64 0, .int .i64 0, .slice none 0 0] 40) = wz10 at *
          refine hK.out _ _ ?_ (fun hHeld => ?_)
          · (try dsimp only); exact ⟨(SD.blk 0 rfl).cell3.1, (SD.blk 0 rfl).cell3.2.1⟩
          clear hK K
          (try simp only [Act.put, List.setIfInBounds_toArray, List.set_cons_zero, List.set_cons_succ])
          refine man_run 12 rfl (by kernel_rfl) (fun K hK => ?_)
          obtain ⟨y110, y111, y112⟩ := (SD.blk 3 rfl).cell3
          obtain ⟨x110, x111, x112⟩ := (SD.blk 3 rfl).frozen3
          have hB := SD.blk 4 rfl
          obtain ⟨z0, z1, z2⟩ := hB.cell3
          obtain ⟨f0, f1, f2⟩ := hB.frozen3
          go_simp
          clear z0 z1 z2 f0 f1 f2
          replace ho1 := own_set3 ho1 hB (by decide) (.int .i64 a) (.int .i64 b) (.slice (some ⟨r1, 0, none⟩) (b * a) k4)
          replace ho2 := own_set3 ho2 hB (by decide) (.int .i64 a) (.int .i64 b) (.slice (some ⟨r1, 0, none⟩) (b * a) k4)
          have SQ := ((SD.sub (L' := [.blk (w.heap.size) 24 #[.int .i64 a, .int .i64 b, .slice A (b * a) c], .blk ((w.heap.size + 1)) 40 #[.int .i64 0, .int .i64 0, .slice none 0 0], .blk ((w.heap.size + 1 + 1)) 40 #[.int .i64 0, .int .i64 0, .slice none 0 0], .blk (wz9.heap.size) 40 #[.int .i64 0, .int .i64 0, .slice none 0 0]]) (by simp)).put3 (bb := (wz9.heap.size + 1)) (by omega) hB ⟨(by show _ ≠ _; omega), (by show _ ≠ _; omega), (by show _ ≠ _; omega), (by show _ ≠ _; omega), trivial⟩ a b (some ⟨r1, 0, none⟩) (b * a) k4).addBlk (hB.set3 (.int .i64 a) (.int .i64 b) (.slice (some ⟨r1, 0, none⟩) (b * a) k4))
          simp only [List.nil_append, List.cons_append] at SQ
          replace SD := SQ
          clear hB SQ
          refine hK.out _ _ ?_ (fun hHeld => ?_)
          · (try dsimp only); exact ⟨(SD.blk 0 rfl).cell3.1, (SD.blk 0 rfl).cell3.2.1⟩
          clear hK K
          (try simp only [Act.put, List.setIfInBounds_toArray, List.set_cons_zero, List.set_cons_succ])
          refine man_run 13 rfl (by kernel_rfl) (fun K hK => ?_)
          have hB := SD.blk 3 rfl
          obtain ⟨z0, z1, z2⟩ := hB.cell3
          obtain ⟨f0, f1, f2⟩ := hB.frozen3
          go_simp
          clear z0 z1 z2 f0 f1 f2
          replace ho1 := own_set3 ho1 hB (by decide) (.int .i64 a) (.int .i64 b) (.slice (some ⟨r2, 0, none⟩) (b * a) k9)
          replace ho2 := own_set3 ho2 hB (by decide) (.int .i64 a) (.int .i64 b) (.slice (some ⟨r2, 0, none⟩) (b * a) k9)
          have SQ := ((SD.sub (L' := [.blk (w.heap.size) 24 #[.int .i64 a, .int .i64 b, .slice A (b * a) c], .blk ((w.heap.size + 1)) 40 #[.int .i64 0, .int .i64 0, .slice none 0 0], .blk ((w.heap.size + 1 + 1)) 40 #[.int .i64 0, .int .i64 0, .slice none 0 0], .blk ((wz9.heap.size + 1)) 40 #[.int .i64 a, .int .i64 b, .slice (some ⟨r1, 0, none⟩) (b * a) k4]]) (by simp)).put3 (bb := wz9.heap.size) (by omega) hB ⟨(by show _ ≠ _; omega), (by show _ ≠ _; omega), (by show _ ≠ _; omega), (by show _ ≠ _; omega), trivial⟩ a b (some ⟨r2, 0, none⟩) (b * a) k9).addBlk (hB.set3 (.int .i64 a) (.int .i64 b) (.slice (some ⟨r2, 0, none⟩) (b * a) k9))
          simp only [List.nil_append, List.cons_append] at SQ
          replace SD := SQ
          clear hB SQ
          refine hK.out _ _ ?_ (fun hHeld => ?_)
          · (try dsimp only); exact ⟨(SD.blk 0 rfl).cell3.1, (SD.blk 0 rfl).cell3.2.1⟩
          clear hK K
          (try simp only [Act.put, List.setIfInBounds_toArray, List.set_cons_zero, List.set_cons_succ])
          refine wpAnyH_done (by kernel_rfl) ?_ _
          go_wp2_with fail
          go_meet
          exact ⟨_, _, r1, r2, k4, k9, rfl, rfl, ⟨SD.blk 3 rfl, SD.blk 4 rfl, ho1, ho2, by omega, by omega, by omega, by omega⟩, SD.sub (L' := [.blk w.heap.size 24 #[.int .i64 a, .int .i64 b, .slice A (b * a) c], .blk (w.heap.size + 1) 40 #[.int .i64 0, .int .i64 0, .slice none 0 0], .blk (w.heap.size + 1 + 1) 40 #[.int .i64 0, .int .i64 0, .slice none 0 0]]) (by simp)⟩
      · go_simp
        have hz10 := size_alloc1 wz4 (.cells #[.int .i64 0, .int .i64 0, .slice none 0 0] 40)
        replace SD := SD.box #[.int .i64 0, .int .i64 0, .slice none 0 0] 40
        simp only [List.nil_append, List.cons_append] at SD
        replace ho1 := ho1.alloc (.cells #[.int .i64 0, .int .i64 0, .slice none 0 0] 40)
        generalize wz4.alloc (.cells #[.int .i64 0, .int .i64 0, .slice none 0 0] 40) = wz10 at *
        refine hK.out _ _ ?_ (fun hHeld => ?_)
        · (try dsimp only); exact ⟨(SD.blk 0 rfl).cell3.1, (SD.blk 0 rfl).cell3.2.1⟩
        clear hK K
        (try simp only [Act.put, List.setIfInBounds_toArray, List.set_cons_zero, List.set_cons_succ])
        refine man_two 9 11 rfl rfl (by kernel_rfl) (fun K hK => ?_) (fun K hK => ?_)
        · go_simp
          refine (zero_any a b _ ha hb).mono ?_
          rintro e wz9 ⟨B9, m9, k9, rfl, hown9, hb9⟩
          have hs9 := hb9.size
          have hw9 := SD.size
          replace SD := SD.keep hb9
          replace ho1 := own_below ho1 hb9
          have hm9 : m9 = b * a := by have h1 := hown9.1; simp at h1; omega
          subst hm9
          obtain ⟨r2, rfl, hl2, hu2, hk2⟩ := own_form hown9 hpos
          have ho2 := own_base hown9 hw9
          clear hown9
          go_wp2_with fail
          refine hK.out _ _ ?_ (fun hHeld => ?_)
          · (try dsimp only); exact ⟨(SD.blk 0 rfl).cell3.1, (SD.blk 0 rfl).cell3.2.1⟩
          clear hK K
          (try simp only [Act.put, List.setIfInBounds_toArray, List.set_cons_zero, List.set_cons_succ])
          refine man_run 11 rfl (by kernel_rfl) (fun K hK => ?_)
          go_simp
          have hz11 := size_alloc1 wz9 (.cells #[.int .i64 0, .int .i64 0, .slice none 0 0] 40)
          replace SD := SD.box #[.int .i64 0, .int .i64 0, .slice none 0 0] 40
          simp only [List.nil_append, List.cons_append] at SD
          replace ho1 := ho1.alloc (.cells #[.int .i64 0, .int .i64 0, .slice none 0 0] 40)
          replace ho2 := ho2.alloc (.cells #[.int .i64 0, .int .i64 0, .slice none 0 0] 40)
          generalize wz9.alloc (.cells #[.int .i64 0, .int .i64 0, .slice none 0 0] 40) = wz11 at *
          refine hK.out _ _ ?_ (fun hHeld => ?_)
          · (try dsimp only); exact ⟨(SD.blk 0 rfl).cell3.1, (SD.blk 0 rfl).cell3.2.1⟩
          clear hK K
          (try simp only [Act.put, List.setIfInBounds_toArray, List.set_cons_zero, List.set_cons_succ])
          refine man_run 12 rfl (by kernel_rfl) (fun K hK => ?_)
          obtain ⟨y110, y111, y112⟩ := (SD.blk 4 rfl).cell3
          obtain ⟨x110, x111, x112⟩ := (SD.blk 4 rfl).frozen3
          have hB := SD.blk 3 rfl
          obtain ⟨z0, z1, z2⟩ := hB.cell3
          obtain ⟨f0, f1, f2⟩ := hB.frozen3
          go_simp
          clear z0 z1 z2 f0 f1 f2
          replace ho1 := own_set3 ho1 hB (by decide) (.int .i64 a) (.int .i64 b) (.slice (some ⟨r1, 0, none⟩) (b * a) k4)
          replace ho2 := own_set3 ho2 hB (by decide) (.int .i64 a) (.int .i64 b) (.slice (some ⟨r1, 0, none⟩) (b * a) k4)
          have SQ := ((SD.sub (L' := [.blk (w.heap.size) 24 #[.int .i64 a, .int .i64 b, .slice A (b * a) c], .blk ((w.heap.size + 1)) 40 #[.int .i64 0, .int .i64 0, .slice none 0 0], .blk ((w.heap.size + 1 + 1)) 40 #[.int .i64 0, .int .i64 0, .slice none 0 0], .blk (wz9.heap.size) 40 #[.int .i64 0, .int .i64 0, .slice none 0 0]]) (by simp)).put3 (bb := wz4.heap.size) (by omega) hB ⟨(by show _ ≠ _; omega), (by show _ ≠ _; omega), (by show _ ≠ _; omega), (by show _ ≠ _; omega), trivial⟩ a b (some ⟨r1, 0, none⟩) (b * a) k4).addBlk (hB.set3 (.int .i64 a) (.int .i64 b) (.slice (some ⟨r1, 0, none⟩) (b * a) k4))
          simp only [List.nil_append, List.cons_append] at SQ
          replace SD := SQ
          clear hB SQ
          refine hK.out _ _ ?_ (fun hHeld => ?_)
          · (try dsimp only); exact ⟨(SD.blk 0 rfl).cell3.1, (SD.blk 0 rfl).cell3.2.1⟩
          clear hK K
          (try simp only [Act.put, List.setIfInBounds_toArray, List.set_cons_zero, List.set_cons_succ])
          refine man_run 13 rfl (by kernel_rfl) (fun K hK => ?_)
          have hB := SD.blk 3 rfl
          obtain ⟨z0, z1, z2⟩ := hB.cell3
          obtain ⟨f0, f1, f2⟩ := hB.frozen3
          go_simp
          clear z0 z1 z2 f0 f1 f2
          replace ho1 := own_set3 ho1 hB (by decide) (.int .i64 a) (.int .i64 b) (.slice (some ⟨r2, 0, none⟩) (b * a) k9)
          replace ho2 := own_set3 ho2 hB (by decide) (.int .i64 a) (.int .i64 b) (.slice (some ⟨r2, 0, none⟩) (b * a) k9)
          have SQ := ((SD.sub (L' := [.blk (w.heap.size) 24 #[.int .i64 a, .int .i64 b, .slice A (b * a) c], .blk ((w.heap.size + 1)) 40 #[.int .i64 0, .int .i64 0, .slice none 0 0], .blk ((w.heap.size + 1 + 1)) 40 #[.int .i64 0, .int .i64 0, .slice none 0 0], .blk (wz4.heap.size) 40 #[.int .i64 a, .int .i64 b, .slice (some ⟨r1, 0, none⟩) (b * a) k4]]) (by simp)).put3 (bb := wz9.heap.size) (by omega) hB ⟨(by show _ ≠ _; omega), (by show _ ≠ _; omega), (by show _ ≠ _; omega), (by show _ ≠ _; omega), trivial⟩ a b (some ⟨r2, 0, none⟩) (b * a) k9).addBlk (hB.set3 (.int .i64 a) (.int .i64 b) (.slice (some ⟨r2, 0, none⟩) (b * a) k9))
          simp only [List.nil_append, List.cons_append] at SQ
          replace SD := SQ
          clear hB SQ
          refine hK.out _ _ ?_ (fun hHeld => ?_)
          · (try dsimp only); exact ⟨(SD.blk 0 rfl).cell3.1, (SD.blk 0 rfl).cell3.2.1⟩
          clear hK K
          (try simp only [Act.put, List.setIfInBounds_toArray, List.set_cons_zero, List.set_cons_succ])
          refine wpAnyH_done (by kernel_rfl) ?_ _
          go_wp2_with fail
          go_meet
          exact ⟨_, _, r1, r2, k4, k9, rfl, rfl, ⟨SD.blk 3 rfl, SD.blk 4 rfl, ho1, ho2, by omega, by omega, by omega, by omega⟩, SD.sub (L' := [.blk w.heap.size 24 #[.int .i64 a, .int .i64 b, .slice A (b * a) c], .blk (w.heap.size + 1) 40 #[.int .i64 0, .int .i64 0, .slice none 0 0], .blk (w.heap.size + 1 + 1) 40 #[.int .i64 0, .int .i64 0, .slice none 0 0]]) (by simp)⟩
        · go_simp
          have hz11 := size_alloc1 wz10 (.cells #[.int .i64 0, .int .i64 0, .slice none 0 0] 40)
          replace SD := SD.box #[.int .i64 0, .int .i64 0, .slice none 0 0] 40
          simp only [List.nil_append, List.cons_append] at SD
          rw [hz10] at hz11
          simp only [hz10] at SD
          replace ho1 := ho1.alloc (.cells #[.int .i64 0, .int .i64 0, .slice none 0 0] 40)
          generalize wz10.alloc (.cells #[.int .i64 0, .int .i64 0, .slice none 0 0] 40) = wz11 at *
          refine hK.out _ _ ?_ (fun hHeld => ?_)
          · (try dsimp only); exact ⟨(SD.blk 0 rfl).cell3.1, (SD.blk 0 rfl).cell3.2.1⟩
          clear hK K
          (try simp only [Act.put, List.setIfInBounds_toArray, List.set_cons_zero, List.set_cons_succ])
          refine man_run 9 rfl (by kernel_rfl) (fun K hK => ?_)
          go_simp
          refine (zero_any a b _ ha hb).mono ?_
          rintro e wz9 ⟨B9, m9, k9, rfl, hown9, hb9⟩
          have hs9 := hb9.size
          have hw9 := SD.size
          replace SD := SD.keep hb9
          replace ho1 := own_below ho1 hb9
          have hm9 : m9 = b * a := by have h1 := hown9.1; simp at h1; omega
          subst hm9
          obtain ⟨r2, rfl, hl2, hu2, hk2⟩ := own_form hown9 hpos
          have ho2 := own_base hown9 hw9
          clear hown9
          go_wp2_with fail
          refine hK.out _ _ ?_ (fun hHeld => ?_)
          · (try dsimp only); exact ⟨(SD.blk 0 rfl).cell3.1, (SD.blk 0 rfl).cell3.2.1⟩
          clear hK K
          (try simp only [Act.put, List.setIfInBounds_toArray, List.set_cons_zero, List.set_cons_succ])
          refine man_run 12 rfl (by kernel_rfl) (fun K hK => ?_)
          obtain ⟨y110, y111, y112⟩ := (SD.blk 4 rfl).cell3
          obtain ⟨x110, x111, x112⟩ := (SD.blk 4 rfl).frozen3
          have hB := SD.blk 3 rfl
          obtain ⟨z0, z1, z2⟩ := hB.cell3
          obtain ⟨f0, f1, f2⟩ := hB.frozen3
          go_simp
          clear z0 z1 z2 f0 f1 f2
          replace ho1 := own_set3 ho1 hB (by decide) (.int .i64 a) (.int .i64 b) (.slice (some ⟨r1, 0, none⟩) (b * a) k4)
          replace ho2 := own_set3 ho2 hB (by decide) (.int .i64 a) (.int .i64 b) (.slice (some ⟨r1, 0, none⟩) (b * a) k4)
          have SQ := ((SD.sub (L' := [.blk (w.heap.size) 24 #[.int .i64 a, .int .i64 b, .slice A (b * a) c], .blk ((w.heap.size + 1)) 40 #[.int .i64 0, .int .i64 0, .slice none 0 0], .blk ((w.heap.size + 1 + 1)) 40 #[.int .i64 0, .int .i64 0, .slice none 0 0], .blk ((wz4.heap.size + 1)) 40 #[.int .i64 0, .int .i64 0, .slice none 0 0]]) (by simp)).put3 (bb := wz4.heap.size) (by omega) hB ⟨(by show _ ≠ _; omega), (by show _ ≠ _; omega), (by show _ ≠ _; omega), (by show _ ≠ _; omega), trivial⟩ a b (some ⟨r1, 0, none⟩) (b * a) k4).addBlk (hB.set3 (.int .i64 a) (.int .i64 b) (.slice (some ⟨r1, 0, none⟩) (b * a) k4))
          simp only [List.nil_append, List.cons_append] at SQ
          replace SD := SQ
          clear hB SQ
          refine hK.out _ _ ?_ (fun hHeld => ?_)
          · (try dsimp only); exact ⟨(SD.blk 0 rfl).cell3.1, (SD.blk 0 rfl).cell3.2.1⟩
          clear hK K
          (try simp only [Act.put, List.setIfInBounds_toArray, List.set_cons_zero, List.set_cons_succ])
          refine man_run 13 rfl (by kernel_rfl) (fun K hK => ?_)
          have hB := SD.blk 3 rfl
          obtain ⟨z0, z1, z2⟩ := hB.cell3
          obtain ⟨f0, f1, f2⟩ := hB.frozen3
          go_simp
          clear z0 z1 z2 f0 f1 f2
          replace ho1 := own_set3 ho1 hB (by decide) (.int .i64 a) (.int .i64 b) (.slice (some ⟨r2, 0, none⟩) (b * a) k9)
          replace ho2 := own_set3 ho2 hB (by decide) (.int .i64 a) (.int .i64 b) (.slice (some ⟨r2, 0, none⟩) (b * a) k9)
          have SQ := ((SD.sub (L' := [.blk (w.heap.size) 24 #[.int .i64 a, .int .i64 b, .slice A (b * a) c], .blk ((w.heap.size + 1)) 40 #[.int .i64 0, .int .i64 0, .slice none 0 0], .blk ((w.heap.size + 1 + 1)) 40 #[.int .i64 0, .int .i64 0, .slice none 0 0], .blk (wz4.heap.size) 40 #[.int .i64 a, .int .i64 b, .slice (some ⟨r1, 0, none⟩) (b * a) k4]]) (by simp)).put3 (bb := (wz4.heap.size + 1)) (by omega) hB ⟨(by show _ ≠ _; omega), (by show _ ≠ _; omega), (by show _ ≠ _; omega), (by show _ ≠ _; omega), trivial⟩ a b (some ⟨r2, 0, none⟩) (b * a) k9).addBlk (hB.set3 (.int .i64 a) (.int .i64 b) (.slice (some ⟨r2, 0, none⟩) (b * a) k9))
          simp only [List.nil_append, List.cons_append] at SQ
          replace SD := SQ
          clear hB SQ
          refine hK.out _ _ ?_ (fun hHeld => ?_)
          · (try dsimp only); exact ⟨(SD.blk 0 rfl).cell3.1, (SD.blk 0 rfl).cell3.2.1⟩
          clear hK K
          (try simp only [Act.put, List.setIfInBounds_toArray, List.set_cons_zero, List.set_cons_succ])
          refine wpAnyH_done (by kernel_rfl) ?_ _
          go_wp2_with fail
          go_meet
          exact ⟨_, _, r1, r2, k4, k9, rfl, rfl, ⟨SD.blk 3 rfl, SD.blk 4 rfl, ho1, ho2, by omega, by omega, by omega, by omega⟩, SD.sub (L' := [.blk w.heap.size 24 #[.int .i64 a, .int .i64 b, .slice A (b * a) c], .blk (w.heap.size + 1) 40 #[.int .i64 0, .int .i64 0, .slice none 0 0], .blk (w.heap.size + 1 + 1) 40 #[.int .i64 0, .int .i64 0, .slice none 0 0]]) (by simp)⟩
      · go_simp
        have hz11 := size_alloc1 wz4 (.cells #[.int .i64 0, .int .i64 0, .slice none 0 0] 40)
        replace SD := SD.box #[.int .i64 0, .int .i64 0, .slice none 0 0] 40
        simp only [List.nil_append, List.cons_append] at SD
        replace ho1 := ho1.alloc (.cells #[.int .i64 0, .int .i64 0, .slice none 0 0] 40)
        generalize wz4.alloc (.cells #[.int .i64 0, .int .i64 0, .slice none 0 0] 40) = wz11 at *
        refine hK.out _ _ ?_ (fun hHeld => ?_)
        · (try dsimp only); exact ⟨(SD.blk 0 rfl).cell3.1, (SD.blk 0 rfl).cell3.2.1⟩
        clear hK K
        (try simp only [Act.put, List.setIfInBounds_toArray, List.set_cons_zero, List.set_cons_succ])
        refine man_two 9 10 rfl rfl (by kernel_rfl) (fun K hK => ?_) (fun K hK => ?_)
        · go_simp
          refine (zero_any a b _ ha hb).mono ?_
          rintro e wz9 ⟨B9, m9, k9, rfl, hown9, hb9⟩
          have hs9 := hb9.size
          have hw9 := SD.size
          replace SD := SD.keep hb9
          replace ho1 := own_below ho1 hb9
          have hm9 : m9 = b * a := by have h1 := hown9.1; simp at h1; omega
          subst hm9
          obtain ⟨r2, rfl, hl2, hu2, hk2⟩ := own_form hown9 hpos
          have ho2 := own_base hown9 hw9
          clear hown9
          go_wp2_with fail
          refine hK.out _ _ ?_ (fun hHeld => ?_)
          · (try dsimp only); exact ⟨(SD.blk 0 rfl).cell3.1, (SD.blk 0 rfl).cell3.2.1⟩
          clear hK K
          (try simp only [Act.put, List.setIfInBounds_toArray, List.set_cons_zero, List.set_cons_succ])
          refine man_run 10 rfl (by kernel_rfl) (fun K hK => ?_)
          go_simp
          have hz10 := size_alloc1 wz9 (.cells #[.int .i64 0, .int .i64 0, .slice none 0 0] 40)
          replace SD := SD.box #[.int .i64 0, .int .i64 0, .slice none 0 0] 40
          simp only [List.nil_append, List.cons_append] at SD
          replace ho1 := ho1.alloc (.cells #[.int .i64 0, .int .i64 0, .slice none 0 0] 40)
          replace ho2 := ho2.alloc (.cells #[.int .i64 0, .int .i64 0, .slice none 0 0] 40)
          generalize wz9.alloc (.cells #[.int .i64 0, .int .i64 0, .slice none 0 0] 40) = wz10 at *
          refine hK.out _ _ ?_ (fun hHeld => ?_)
          · (try dsimp only); exact ⟨(SD.blk 0 rfl).cell3.1, (SD.blk 0 rfl).cell3.2.1⟩
          clear hK K
          (try simp only [Act.put, List.setIfInBounds_toArray, List.set_cons_zero, List.set_cons_succ])
          refine man_run 12 rfl (by kernel_rfl) (fun K hK => ?_)
          obtain ⟨y110, y111, y112⟩ := (SD.blk 3 rfl).cell3
          obtain ⟨x110, x111, x112⟩ := (SD.blk 3 rfl).frozen3
          have hB := SD.blk 4 rfl
          obtain ⟨z0, z1, z2⟩ := hB.cell3
          obtain ⟨f0, f1, f2⟩ := hB.frozen3
          go_simp
          clear z0 z1 z2 f0 f1 f2
          replace ho1 := own_set3 ho1 hB (by decide) (.int .i64 a) (.int .i64 b) (.slice (some ⟨r1, 0, none⟩) (b * a) k4)
          replace ho2 := own_set3 ho2 hB (by decide) (.int .i64 a) (.int .i64 b) (.slice (some ⟨r1, 0, none⟩) (b * a) k4)
          have SQ := ((SD.sub (L' := [.blk (w.heap.size) 24 #[.int .i64 a, .int .i64 b, .slice A (b * a) c], .blk ((w.heap.size + 1)) 40 #[.int .i64 0, .int .i64 0, .slice none 0 0], .blk ((w.heap.size + 1 + 1)) 40 #[.int .i64 0, .int .i64 0, .slice none 0 0], .blk (wz4.heap.size) 40 #[.int .i64 0, .int .i64 0, .slice none 0 0]]) (by simp)).put3 (bb := wz9.heap.size) (by omega) hB ⟨(by show _ ≠ _; omega), (by show _ ≠ _; omega), (by show _ ≠ _; omega), (by show _ ≠ _; omega), trivial⟩ a b (some ⟨r1, 0, none⟩) (b * a) k4).addBlk (hB.set3 (.int .i64 a) (.int .i64 b) (.slice (some ⟨r1, 0, none⟩) (b * a) k4))
          simp only [List.nil_append, List.cons_append] at SQ
          replace SD := SQ
          clear hB SQ
          refine hK.out _ _ ?_ (fun hHeld => ?_)
          · (try dsimp only); exact ⟨(SD.blk 0 rfl).cell3.1, (SD.blk 0 rfl).cell3.2.1⟩
          clear hK K
          (try simp only [Act.put, List.setIfInBounds_toArray, List.set_cons_zero, List.set_cons_succ])
          refine man_run 13 rfl (by kernel_rfl) (fun K hK => ?_)
          have hB := SD.blk 3 rfl
          obtain ⟨z0, z1, z2⟩ := hB.cell3
          obtain ⟨f0, f1, f2⟩ := hB.frozen3
          go_simp
          clear z0 z1 z2 f0 f1 f2
          replace ho1 := own_set3 ho1 hB (by decide) (.int .i64 a) (.int .i64 b) (.slice (some ⟨r2, 0, none⟩) (b * a) k9)
          replace ho2 := own_set3 ho2 hB (by decide) (.int .i64 a) (.int .i64 b) (.slice (some ⟨r2, 0, none⟩) (b * a) k9)
          have SQ := ((SD.sub (L' := [.blk (w.heap.size) 24 #[.int .i64 a, .int .i64 b, .slice A (b * a) c], .blk ((w.heap.size + 1)) 40 #[.int .i64 0, .int .i64 0, .slice none 0 0], .blk ((w.heap.size + 1 + 1)) 40 #[.int .i64 0, .int .i64 0, .slice none 0 0], .blk (wz9.heap.size) 40 #[.int .i64 a, .int .i64 b, .slice (some ⟨r1, 0, none⟩) (b * a) k4]]) (by simp)).put3 (bb := wz4.heap.size) (by omega) hB ⟨(by show _ ≠ _; omega), (by show _ ≠ _; omega), (by show _ ≠ _; omega), (by show _ ≠ _; omega), trivial⟩ a b (some ⟨r2, 0, none⟩) (b * a) k9).addBlk (hB.set3 (.int .i64 a) (.int .i64 b) (.slice (some ⟨r2, 0, none⟩) (b * a) k9))
          simp only [List.nil_append, List.cons_append] at SQ
          replace SD := SQ
          clear hB SQ
          refine hK.out _ _ ?_ (fun hHeld => ?_)
          · (try dsimp only); exact ⟨(SD.blk 0 rfl).cell3.1, (SD.blk 0 rfl).cell3.2.1⟩
          clear hK K
          (try simp only [Act.put, List.setIfInBounds_toArray, List.set_cons_zero, List.set_cons_succ])
          refine wpAnyH_done (by kernel_rfl) ?_ _
          go_wp2_with fail
          go_meet
          exact ⟨_, _, r1, r2, k4, k9, rfl, rfl, ⟨SD.blk 3 rfl, SD.blk 4 rfl, ho1, ho2, by omega, by omega, by omega, by omega⟩, SD.sub (L' := [.blk w.heap.size 24 #[.int .i64 a, .int .i64 b, .slice A (b * a) c], .blk (w.heap.size + 1) 40 #[.int .i64 0, .int .i64 0, .slice none 0 0], .blk (w.heap.size + 1 + 1) 40 #[.int .i64 0, .int .i64 0, .slice none 0 0]]) (by simp)⟩
        · go_simp
          have hz10 := size_alloc1 wz11 (.cells #[.int .i64 0, .int .i64 0, .slice none 0 0] 40)
          replace SD := SD.box #[.int .i64 0, .int .i64 0, .slice none 0 0] 40
          simp only [List.nil_append, List.cons_append] at SD
          rw [hz11] at hz10
          simp only [hz11] at SD
          replace ho1 := ho1.alloc (.cells #[.int .i64 0, .int .i64 0, .slice none 0 0] 40)
          generalize wz11.alloc (.cells #[.int .i64 0, .int .i64 0, .slice none 0 0] 40) = wz10 at *
          refine hK.out _ _ ?_ (fun hHeld => ?_)
          · (try dsimp only); exact ⟨(SD.blk 0 rfl).cell3.1, (SD.blk 0 rfl).cell3.2.1⟩
          clear hK K
          (try simp only [Act.put, List.setIfInBounds_toArray, List.set_cons_zero, List.set_cons_succ])
          refine man_run 9 rfl (by kernel_rfl) (fun K hK => ?_)
          go_simp
          refine (zero_any a b _ ha hb).mono ?_
          rintro e wz9 ⟨B9, m9, k9, rfl, hown9, hb9⟩
          have hs9 := hb9.size
          have hw9 := SD.size
          replace SD := SD.keep hb9
          replace ho1 := own_below ho1 hb9
          have hm9 : m9 = b * a := by have h1 := hown9.1; simp at h1; omega
          subst hm9
          obtain ⟨r2, rfl, hl2, hu2, hk2⟩ := own_form hown9 hpos
          have ho2 := own_base hown9 hw9
          clear hown9
          go_wp2_with fail
          refine hK.out _ _ ?_ (fun hHeld => ?_)
          · (try dsimp only); exact ⟨(SD.blk 0 rfl).cell3.1, (SD.blk 0 rfl).cell3.2.1⟩
          clear hK K
          (try simp only [Act.put, List.setIfInBounds_toArray, List.set_cons_zero, List.set_cons_succ])
          refine man_run 12 rfl (by kernel_rfl) (fun K hK => ?_)
          obtain ⟨y110, y111, y112⟩ := (SD.blk 3 rfl).cell3
          obtain ⟨x110, x111, x112⟩ := (SD.blk 3 rfl).frozen3
          have hB := SD.blk 4 rfl
          obtain ⟨z0, z1, z2⟩ := hB.cell3
          obtain ⟨f0, f1, f2⟩ := hB.frozen3
          go_simp
          clear z0 z1 z2 f0 f1 f2
          replace ho1 := own_set3 ho1 hB (by decide) (.int .i64 a) (.int .i64 b) (.slice (some ⟨r1, 0, none⟩) (b * a) k4)
          replace ho2 := own_set3 ho2 hB (by decide) (.int .i64 a) (.int .i64 b) (.slice (some ⟨r1, 0, none⟩) (b * a) k4)
          have SQ := ((SD.sub (L' := [.blk (w.heap.size) 24 #[.int .i64 a, .int .i64 b, .slice A (b * a) c], .blk ((w.heap.size + 1)) 40 #[.int .i64 0, .int .i64 0, .slice none 0 0], .blk ((w.heap.size + 1 + 1)) 40 #[.int .i64 0, .int .i64 0, .slice none 0 0], .blk (wz4.heap.size) 40 #[.int .i64 0, .int .i64 0, .slice none 0 0]]) (by simp)).put3 (bb := (wz4.heap.size + 1)) (by omega) hB ⟨(by show _ ≠ _; omega), (by show _ ≠ _; omega), (by show _ ≠ _; omega), (by show _ ≠ _; omega), trivial⟩ a b (some ⟨r1, 0, none⟩) (b * a) k4).addBlk (hB.set3 (.int .i64 a) (.int .i64 b) (.slice (some ⟨r1, 0, none⟩) (b * a) k4))
          simp only [List.nil_append, List.cons_append] at SQ
          replace SD := SQ
          clear hB SQ
          refine hK.out _ _ ?_ (fun hHeld => ?_)
          · (try dsimp only); exact ⟨(SD.blk 0 rfl).cell3.1, (SD.blk 0 rfl).cell3.2.1⟩
          clear hK K
          (try simp only [Act.put, List.setIfInBounds_toArray, List.set_cons_zero, List.set_cons_succ])
          refine man_run 13 rfl (by kernel_rfl) (fun K hK => ?_)
          have hB := SD.blk 3 rfl
          obtain ⟨z0, z1, z2⟩ := hB.cell3
          obtain ⟨f0, f1, f2⟩ := hB.frozen3
          go_simp
          clear z0 z1 z2 f0 f1 f2
          replace ho1 := own_set3 ho1 hB (by decide) (.int .i64 a) (.int .i64 b) (.slice (some ⟨r2, 0, none⟩) (b * a) k9)
          replace ho2 := own_set3 ho2 hB (by decide) (.int .i64 a) (.int .i64 b) (.slice (some ⟨r2, 0, none⟩) (b * a) k9)
          have SQ := ((SD.sub (L' := [.blk (w.heap.size) 24 #[.int .i64 a, .int .i64 b, .slice A (b * a) c], .blk ((w.heap.size + 1)) 40 #[.int .i64 0, .int .i64 0, .slice none 0 0], .blk ((w.heap.size + 1 + 1)) 40 #[.int .i64 0, .int .i64 0, .slice none 0 0], .blk ((wz4.heap.size + 1)) 40 #[.int .i64 a, .int .i64 b, .slice (some ⟨r1, 0, none⟩) (b * a) k4]]) (by simp)).put3 (bb := wz4.heap.size) (by omega) hB ⟨(by show _ ≠ _; omega), (by show _ ≠ _; omega), (by show _ ≠ _; omega), (by show _ ≠ _; omega), trivial⟩ a b (some ⟨r2, 0, none⟩) (b * a) k9).addBlk (hB.set3 (.int .i64 a) (.int .i64 b) (.slice (some ⟨r2, 0, none⟩) (b * a) k9))
          simp only [List.nil_append, List.cons_append] at SQ
          replace SD := SQ
          clear hB SQ
          refine hK.out _ _ ?_ (fun hHeld => ?_)
          · (try dsimp only); exact ⟨(SD.blk 0 rfl).cell3.1, (SD.blk 0 rfl).cell3.2.1⟩
          clear hK K
          (try simp only [Act.put, List.setIfInBounds_toArray, List.set_cons_zero, List.set_cons_succ])
          refine wpAnyH_done (by kernel_rfl) ?_ _
          go_wp2_with fail
          go_meet
          exact ⟨_, _, r1, r2, k4, k9, rfl, rfl, ⟨SD.blk 3 rfl, SD.blk 4 rfl, ho1, ho2, by omega, by omega, by omega, by omega⟩, SD.sub (L' := [.blk w.heap.size 24 #[.int .i64 a, .int .i64 b, .slice A (b * a) c], .blk (w.heap.size + 1) 40 #[.int .i64 0, .int .i64 0, .slice none 0 0], .blk (w.heap.size + 1 + 1) 40 #[.int .i64 0, .int .i64 0, .slice none 0 0]]) (by simp)⟩
    · go_simp
      have hz10 := size_alloc1 wd (.cells #[.int .i64 0, .int .i64 0, .slice none 0 0] 40)
      replace SD := SD.box #[.int .i64 0, .int .i64 0, .slice none 0 0] 40
      simp only [List.nil_append, List.cons_append] at SD
      generalize wd.alloc (.cells #[.int .i64 0, .int .i64 0, .slice none 0 0] 40) = wz10 at *
      refine hK.out _ _ ?_ (fun hHeld => ?_)
      · (try dsimp only); exact ⟨(SD.blk 0 rfl).cell3.1, (SD.blk 0 rfl).cell3.2.1⟩
      clear hK K
      (try simp only [Act.put, List.setIfInBounds_toArray, List.set_cons_zero, List.set_cons_succ])
      refine man_two 4 11 rfl rfl (by kernel_rfl) (fun K hK => ?_) (fun K hK => ?_)
      · go_simp
        refine (zero_any a b _ ha hb).mono ?_
        rintro e wz4 ⟨B4, m4, k4, rfl, hown4, hb4⟩
        have hs4 := hb4.size
        have hw4 := SD.size
        replace SD := SD.keep hb4
        have hm4 : m4 = b * a := by have h1 := hown4.1; simp at h1; omega
        subst hm4
        obtain ⟨r1, rfl, hl1, hu1, hk1⟩ := own_form hown4 hpos
        have ho1 := own_base hown4 hw4
        clear hown4
        go_wp2_with fail
        refine hK.out _ _ ?_ (fun hHeld => ?_)
        · (try dsimp only); exact ⟨(SD.blk 0 rfl).cell3.1, (SD.blk 0 rfl).cell3.2.1⟩
        clear hK K
        (try simp only [Act.put, List.setIfInBounds_toArray, List.set_cons_zero, List.set_cons_succ])
        refine man_two 9 11 rfl rfl (by kernel_rfl) (fun K hK => ?_) (fun K hK => ?_)
        · go_simp
          refine (zero_any a b _ ha hb).mono ?_
          rintro e wz9 ⟨B9, m9, k9, rfl, hown9, hb9⟩
          have hs9 := hb9.size
          have hw9 := SD.size
          replace SD := SD.keep hb9
          replace ho1 := own_below ho1 hb9
          have hm9 : m9 = b * a := by have h1 := hown9.1; simp at h1; omega
          subst hm9
          obtain ⟨r2, rfl, hl2, hu2, hk2⟩ := own_form hown9 hpos
          have ho2 := own_base hown9 hw9
          clear hown9
          go_wp2_with fail
          refine hK.out _ _ ?_ (fun hHeld => ?_)
          · (try dsimp only); exact ⟨(SD.blk 0 rfl).cell3.1, (SD.blk 0 rfl).cell3.2.1⟩
          clear hK K
          (try simp only [Act.put, List.setIfInBounds_toArray, List.set_cons_zero, List.set_cons_succ])
          refine man_run 11 rfl (by kernel_rfl) (fun K hK => ?_)
          go_simp
          have hz11 := size_alloc1 wz9 (.cells #[.int .i64 0, .int .i64 0, .slice none 0 0] 40)
          replace SD := SD.box #[.int .i64 0, .int .i64 0, .slice none 0 0] 40
          simp only [List.nil_append, List.cons_append] at SD
          replace ho1 := ho1.alloc (.cells #[.int .i64 0, .int .i64 0, .slice none 0 0] 40)
          replace ho2 := ho2.alloc (.cells #[.int .i64 0, .int .i64 0, .slice none 0 0] 40)
          generalize wz9.alloc (.cells #[.int .i64 0, .int .i64 0, .slice none 0 0] 40) = wz11 at *
          refine hK.out _ _ ?_ (fun hHeld => ?_)
          · (try dsimp only); exact ⟨(SD.blk 0 rfl).cell3.1, (SD.blk 0 rfl).cell3.2.1⟩
          clear hK K
          (try simp only [Act.put, List.setIfInBounds_toArray, List.set_cons_zero, List.set_cons_succ])
          refine man_run 12 rfl (by kernel_rfl) (fun K hK => ?_)
          obtain ⟨y110, y111, y112⟩ := (SD.blk 4 rfl).cell3
          obtain ⟨x110, x111, x112⟩ := (SD.blk 4 rfl).frozen3
          have hB := SD.blk 3 rfl
          obtain ⟨z0, z1, z2⟩ := hB.cell3
          obtain ⟨f0, f1, f2⟩ := hB.frozen3
          go_simp
          clear z0 z1 z2 f0 f1 f2
          replace ho1 := own_set3 ho1 hB (by decide) (.int .i64 a) (.int .i64 b) (.slice (some ⟨r1, 0, none⟩) (b * a) k4)
          replace ho2 := own_set3 ho2 hB (by decide) (.int .i64 a) (.int .i64 b) (.slice (some ⟨r1, 0, none⟩) (b * a) k4)
          have SQ := ((SD.sub (L' := [.blk (w.heap.size) 24 #[.int .i64 a, .int .i64 b, .slice A (b * a) c], .blk ((w.heap.size + 1)) 40 #[.int .i64 0, .int .i64 0, .slice none 0 0], .blk ((w.heap.size + 1 + 1)) 40 #[.int .i64 0, .int .i64 0, .slice none 0 0], .blk (wz9.heap.size) 40 #[.int .i64 0, .int .i64 0, .slice none 0 0]]) (by simp)).put3 (bb := wd.heap.size) (by omega) hB ⟨(by show _ ≠ _; omega), (by show _ ≠ _; omega), (by show _ ≠ _; omega), (by show _ ≠ _; omega), trivial⟩ a b (some ⟨r1, 0, none⟩) (b * a) k4).addBlk (hB.set3 (.int .i64 a) (.int .i64 b) (.slice (some ⟨r1, 0, none⟩) (b * a) k4))
          simp only [List.nil_append, List.cons_append] at SQ
          replace SD := SQ
          clear hB SQ
          refine hK.out _ _ ?_ (fun hHeld => ?_)
          · (try dsimp only); exact ⟨(SD.blk 0 rfl).cell3.1, (SD.blk 0 rfl).cell3.2.1⟩
          clear hK K
          (try simp only [Act.put, List.setIfInBounds_toArray, List.set_cons_zero, List.set_cons_succ])
          refine man_run 13 rfl (by kernel_rfl) (fun K hK => ?_)
          have hB := SD.blk 3 rfl
          obtain ⟨z0, z1, z2⟩ := hB.cell3
          obtain ⟨f0, f1, f2⟩ := hB.frozen3
          go_simp
          clear z0 z1 z2 f0 f1 f2
          replace ho1 := own_set3 ho1 hB (by decide) (.int .i64 a) (.int .i64 b) (.slice (some ⟨r2, 0, none⟩) (b * a) k9)
          replace ho2 := own_set3 ho2 hB (by decide) (.int .i64 a) (.int .i64 b) (.slice (some ⟨r2, 0, none⟩) (b * a) k9)
          have SQ := ((SD.sub (L' := [.blk (w.heap.size) 24 #[.int .i64 a, .int .i64 b, .slice A (b * a) c], .blk ((w.heap.size + 1)) 40 #[.int .i64 0, .int .i64 0, .slice none 0 0], .blk ((w.heap.size + 1 + 1)) 40 #[.int .i64 0, .int .i64 0, .slice none 0 0], .blk (wd.heap.size) 40 #[.int .i64 a, .int .i64 b, .slice (some ⟨r1, 0, none⟩) (b * a) k4]]) (by simp)).put3 (bb := wz9.heap.size) (by omega) hB ⟨(by show _ ≠ _; omega), (by show _ ≠ _; omega), (by show _ ≠ _; omega), (by show _ ≠ _; omega), trivial⟩ a b (some ⟨r2, 0, none⟩) (b * a) k9).addBlk (hB.set3 (.int .i64 a) (.int .i64 b) (.slice (some ⟨r2, 0, none⟩) (b * a) k9))
          simp only [List.nil_append, List.cons_append] at SQ
          replace SD := SQ
          clear hB SQ
          refine hK.out _ _ ?_ (fun hHeld => ?_)
          · (try dsimp only); exact ⟨(SD.blk 0 rfl).cell3.1, (SD.blk 0 rfl).cell3.2.1⟩
          clear hK K
          (try simp only [Act.put, List.setIfInBounds_toArray, List.set_cons_zero, List.set_cons_succ])
          refine wpAnyH_done (by kernel_rfl) ?_ _
          go_wp2_with fail
          go_meet
          exact ⟨_, _, r1, r2, k4, k9, rfl, rfl, ⟨SD.blk 3 rfl, SD.blk 4 rfl, ho1, ho2, by omega, by omega, by omega, by omega⟩, SD.sub (L' := [.blk w.heap.size 24 #[.int .i64 a, .int .i64 b, .slice A (b * a) c], .blk (w.heap.size + 1) 40 #[.int .i64 0, .int .i64 0, .slice none 0 0], .blk (w.heap.size + 1 + 1) 40 #[.int .i64 0, .int .i64 0, .slice none 0 0]]) (by simp)⟩
        · go_simp
          have hz11 := size_alloc1 wz4 (.cells #[.int .i64 0, .int .i64 0, .slice none 0 0] 40)
          replace SD := SD.box #[.int .i64 0, .int .i64 0, .slice none 0 0] 40
          simp only [List.nil_append, List.cons_append] at SD
          replace ho1 := ho1.alloc (.cells #[.int .i64 0, .int .i64 0, .slice none 0 0] 40)
          generalize wz4.alloc (.cells #[.int .i64 0, .int .i64 0, .slice none 0 0] 40) = wz11 at *
          refine hK.out _ _ ?_ (fun hHeld => ?_)
          · (try dsimp only); exact ⟨(SD.blk 0 rfl).cell3.1, (SD.blk 0 rfl).cell3.2.1⟩
          clear hK K
          (try simp only [Act.put, List.setIfInBounds_toArray, List.set_cons_zero, List.set_cons_succ])
          refine man_run 9 rfl (by kernel_rfl) (fun K hK => ?_)
          go_simp
          refine (zero_any a b _ ha hb).mono ?_
          rintro e wz9 ⟨B9, m9, k9, rfl, hown9, hb9⟩
          have hs9 := hb9.size
          have hw9 := SD.size
          replace SD := SD.keep hb9
          replace ho1 := own_below ho1 hb9
          have hm9 : m9 = b * a := by have h1 := hown9.1; simp at h1; omega
          subst hm9
          obtain ⟨r2, rfl, hl2, hu2, hk2⟩ := own_form hown9 hpos
          have ho2 := own_base hown9 hw9
          clear hown9
          go_wp2_with fail
          refine hK.out _ _ ?_ (fun hHeld => ?_)
          · (try dsimp only); exact ⟨(SD.blk 0 rfl).cell3.1, (SD.blk 0 rfl).cell3.2.1⟩
          clear hK K
          (try simp only [Act.put, List.setIfInBounds_toArray, List.set_cons_zero, List.set_cons_succ])
          refine man_run 12 rfl (by kernel_rfl) (fun K hK => ?_)
          obtain ⟨y110, y111, y112⟩ := (SD.blk 4 rfl).cell3
          obtain ⟨x110, x111, x112⟩ := (SD.blk 4 rfl).frozen3
          have hB := SD.blk 3 rfl
          obtain ⟨z0, z1, z2⟩ := hB.cell3
          obtain ⟨f0, f1, f2⟩ := hB.frozen3
          go_simp
          clear z0 z1 z2 f0 f1 f2
          replace ho1 := own_set3 ho1 hB (by decide) (.int .i64 a) (.int .i64 b) (.slice (some ⟨r1, 0, none⟩) (b * a) k4)
          replace ho2 := own_set3 ho2 hB (by decide) (.int .i64 a) (.int .i64 b) (.slice (some ⟨r1, 0, none⟩) (b * a) k4)
          have SQ := ((SD.sub (L' := [.blk (w.heap.size) 24 #[.int .i64 a, .int .i64 b, .slice A (b * a) c], .blk ((w.heap.size + 1)) 40 #[.int .i64 0, .int .i64 0, .slice none 0 0], .blk ((w.heap.size + 1 + 1)) 40 #[.int .i64 0, .int .i64 0, .slice none 0 0], .blk (wz4.heap.size) 40 #[.int .i64 0, .int .i64 0, .slice none 0 0]]) (by simp)).put3 (bb := wd.heap.size) (by omega) hB ⟨(by show _ ≠ _; omega), (by show _ ≠ _; omega), (by show _ ≠ _; omega), (by show _ ≠ _; omega), trivial⟩ a b (some ⟨r1, 0, none⟩) (b * a) k4).addBlk (hB.set3 (.int .i64 a) (.int .i64 b) (.slice (some ⟨r1, 0, none⟩) (b * a) k4))
          simp only [List.nil_append, List.cons_append] at SQ
          replace SD := SQ
          clear hB SQ
          refine hK.out _ _ ?_ (fun hHeld => ?_)
          · (try dsimp only); exact ⟨(SD.blk 0 rfl).cell3.1, (SD.blk 0 rfl).cell3.2.1⟩
          clear hK K
          (try simp only [Act.put, List.setIfInBounds_toArray, List.set_cons_zero, List.set_cons_succ])
          refine man_run 13 rfl (by kernel_rfl) (fun K hK => ?_)
          have hB := SD.blk 3 rfl
          obtain ⟨z0, z1, z2⟩ := hB.cell3
          obtain ⟨f0, f1, f2⟩ := hB.frozen3
          go_simp
          clear z0 z1 z2 f0 f1 f2
          replace ho1 := own_set3 ho1 hB (by decide) (.int .i64 a) (.int .i64 b) (.slice (some ⟨r2, 0, none⟩) (b * a) k9)
          replace ho2 := own_set3 ho2 hB (by decide) (.int .i64 a) (.int .i64 b) (.slice (some ⟨r2, 0, none⟩) (b * a) k9)
          have SQ := ((SD.sub (L' := [.blk (w.heap.size) 24 #[.int .i64 a, .int .i64 b, .slice A (b * a) c], .blk ((w.heap.size + 1)) 40 #[.int .i64 0, .int .i64 0, .slice none 0 0], .blk ((w.heap.size + 1 + 1)) 40 #[.int .i64 0, .int .i64 0, .slice none 0 0], .blk (wd.heap.size) 40 #[.int .i64 a, .int .i64 b, .slice (some ⟨r1, 0, none⟩) (b * a) k4]]) (by simp)).put3 (bb := wz4.heap.size) (by omega) hB ⟨(by show _ ≠ _; omega), (by show _ ≠ _; omega), (by show _ ≠ _; omega), (by show _ ≠ _; omega), trivial⟩ a b (some ⟨r2, 0, none⟩) (b * a) k9).addBlk (hB.set3 (.int .i64 a) (.int .i64 b) (.slice (some ⟨r2, 0, none⟩) (b * a) k9))
          simp only [List.nil_append, List.cons_append] at SQ
          replace SD := SQ
          clear hB SQ
          refine hK.out _ _ ?_ (fun hHeld => ?_)
          · (try dsimp only); exact ⟨(SD.blk 0 rfl).cell3.1, (SD.blk 0 rfl).cell3.2.1⟩
          clear hK K
          (try simp only [Act.put, List.setIfInBounds_toArray, List.set_cons_zero, List.set_cons_succ])
          refine wpAnyH_done (by kernel_rfl) ?_ _
          go_wp2_with fail
          go_meet
          exact ⟨_, _, r1, r2, k4, k9, rfl, rfl, ⟨SD.blk 3 rfl, SD.blk 4 rfl, ho1, ho2, by omega, by omega, by omega, by omega⟩, SD.sub (L' := [.blk w.heap.size 24 #[.int .i64 a, .int .i64 b, .slice A (b * a) c], .blk (w.heap.size + 1) 40 #[.int .i64 0, .int .i64 0, .slice none 0 0], .blk (w.heap.size + 1 + 1) 40 #[.int .i64 0, .int .i64 0, .slice none 0 0]]) (by simp)⟩
      · go_simp
        have hz11 := size_alloc1 wz10 (.cells #[.int .i64 0, .int .i64 0, .slice none 0 0] 40)
        replace SD := SD.box #[.int .i64 0, .int .i64 0, .slice none 0 0] 40
        simp only [List.nil_append, List.cons_append] at SD
        rw [hz10] at hz11
        simp only [hz10] at SD
        generalize wz10.alloc (.cells #[.int .i64 0, .int .i64 0, .slice none 0 0] 40) = wz11 at *
        refine hK.out _ _ ?_ (fun hHeld => ?_)
        · (try dsimp only); exact ⟨(SD.blk 0 rfl).cell3.1, (SD.blk 0 rfl).cell3.2.1⟩
        clear hK K
        (try simp only [Act.put, List.setIfInBounds_toArray, List.set_cons_zero, List.set_cons_succ])
        refine man_run 4 rfl (by kernel_rfl) (fun K hK => ?_)
        go_simp
        refine (zero_any a b _ ha hb).mono ?_
        rintro e wz4 ⟨B4, m4, k4, rfl, hown4, hb4⟩
        have hs4 := hb4.size
        have hw4 := SD.size
        replace SD := SD.keep hb4
        have hm4 : m4 = b * a := by have h1 := hown4.1; simp at h1; omega
        subst hm4
        obtain ⟨r1, rfl, hl1, hu1, hk1⟩ := own_form hown4 hpos
        have ho1 := own_base hown4 hw4
        clear hown4
        go_wp2_with fail
        refine hK.out _ _ ?_ (fun hHeld => ?_)
        · (try dsimp only); exact ⟨(SD.blk 0 rfl).cell3.1, (SD.blk 0 rfl).cell3.2.1⟩
        clear hK K
        (try simp only [Act.put, List.setIfInBounds_toArray, List.set_cons_zero, List.set_cons_succ])
        refine man_run 9 rfl (by kernel_rfl) (fun K hK => ?_)
        go_simp
        refine (zero_any a b _ ha hb).mono ?_
        rintro e wz9 ⟨B9, m9, k9, rfl, hown9, hb9⟩
        have hs9 := hb9.size
        have hw9 := SD.size
        replace SD := SD.keep hb9
        replace ho1 := own_below ho1 hb9
        have hm9 : m9 = b * a := by have h1 := hown9.1; simp at h1; omega
        subst hm9
        obtain ⟨r2, rfl, hl2, hu2, hk2⟩ := own_form hown9 hpos
        have ho2 := own_base hown9 hw9
        clear hown9
        go_wp2_with fail
        refine hK.out _ _ ?_ (fun hHeld => ?_)
        · (try dsimp only); exact ⟨(SD.blk 0 rfl).cell3.1, (SD.blk 0 rfl).cell3.2.1⟩
        clear hK K
        (try simp only [Act.put, List.setIfInBounds_toArray, List.set_cons_zero, List.set_cons_succ])
        refine man_run 12 rfl (by kernel_rfl) (fun K hK => ?_)
        obtain ⟨y110, y111, y112⟩ := (SD.blk 4 rfl).cell3
        obtain ⟨x110, x111, x112⟩ := (SD.blk 4 rfl).frozen3
        have hB := SD.blk 3 rfl
        obtain ⟨z0, z1, z2⟩ := hB.cell3
        obtain ⟨f0, f1, f2⟩ := hB.frozen3
        go_simp
        clear z0 z1 z2 f0 f1 f2
        replace ho1 := own_set3 ho1 hB (by decide) (.int .i64 a) (.int .i64 b) (.slice (some ⟨r1, 0, none⟩) (b * a) k4)
        replace ho2 := own_set3 ho2 hB (by decide) (.int .i64 a) (.int .i64 b) (.slice (some ⟨r1, 0, none⟩) (b * a) k4)
        have SQ := ((SD.sub (L' := [.blk (w.heap.size) 24 #[.int .i64 a, .int .i64 b, .slice A (b * a) c], .blk ((w.heap.size + 1)) 40 #[.int .i64 0, .int .i64 0, .slice none 0 0], .blk ((w.heap.size + 1 + 1)) 40 #[.int .i64 0, .int .i64 0, .slice none 0 0], .blk ((wd.heap.size + 1)) 40 #[.int .i64 0, .int .i64 0, .slice none 0 0]]) (by simp)).put3 (bb := wd.heap.size) (by omega) hB ⟨(by show _ ≠ _; omega), (by show _ ≠ _; omega), (by show _ ≠ _; omega), (by show _ ≠ _; omega), trivial⟩ a b (some ⟨r1, 0, none⟩) (b * a) k4).addBlk (hB.set3 (.int .i64 a) (.int .i64 b) (.slice (some ⟨r1, 0, none⟩) (b * a) k4))
        simp only [List.nil_append, List.cons_append] at SQ
        replace SD := SQ
        clear hB SQ
        refine hK.out _ _ ?_ (fun hHeld => ?_)
        · (try dsimp only); exact ⟨(SD.blk 0 rfl).cell3.1, (SD.blk 0 rfl).cell3.2.1⟩
        clear hK K
        (try simp only [Act.put, List.setIfInBounds_toArray, List.set_cons_zero, List.set_cons_succ])
        refine man_run 13 rfl (by kernel_rfl) (fun K hK => ?_)
        have hB := SD.blk 3 rfl
        obtain ⟨z0, z1, z2⟩ := hB.cell3
        obtain ⟨f0, f1, f2⟩ := hB.frozen3
        go_simp
        clear z0 z1 z2 f0 f1 f2
        replace ho1 := own_set3 ho1 hB (by decide) (.int .i64 a) (.int .i64 b) (.slice (some ⟨r2, 0, none⟩) (b * a) k9)
        replace ho2 := own_set3 ho2 hB (by decide) (.int .i64 a) (.int .i64 b) (.slice (some ⟨r2, 0, none⟩) (b * a) k9)
        have SQ := ((SD.sub (L' := [.blk (w.heap.size) 24 #[.int .i64 a, .int .i64 b, .slice A (b * a) c], .blk ((w.heap.size + 1)) 40 #[.int .i64 0, .int .i64 0, .slice none 0 0], .blk ((w.heap.size + 1 + 1)) 40 #[.int .i64 0, .int .i64 0, .slice none 0 0], .blk (wd.heap.size) 40 #[.int .i64 a, .int .i64 b, .slice (some ⟨r1, 0, none⟩) (b * a) k4]]) (by simp)).put3 (bb := (wd.heap.size + 1)) (by omega) hB ⟨(by show _ ≠ _; omega), (by show _ ≠ _; omega), (by show _ ≠ _; omega), (by show _ ≠ _; omega), trivial⟩ a b (some ⟨r2, 0, none⟩) (b * a) k9).addBlk (hB.set3 (.int .i64 a) (.int .i64 b) (.slice (some ⟨r2, 0, none⟩) (b * a) k9))
        simp only [List.nil_append, List.cons_append] at SQ
        replace SD := SQ
        clear hB SQ
        refine hK.out _ _ ?_ (fun hHeld => ?_)
        · (try dsimp only); exact ⟨(SD.blk 0 rfl).cell3.1, (SD.blk 0 rfl).cell3.2.1⟩
        clear hK K
        (try simp only [Act.put, List.setIfInBounds_toArray, List.set_cons_zero, List.set_cons_succ])
        refine wpAnyH_done (by kernel_rfl) ?_ _
        go_wp2_with fail
        go_meet
        exact ⟨_, _, r1, r2, k4, k9, rfl, rfl, ⟨SD.blk 3 rfl, SD.blk 4 rfl, ho1, ho2, by omega, by omega, by omega, by omega⟩, SD.sub (L' := [.blk w.heap.size 24 #[.int .i64 a, .int .i64 b, .slice A (b * a) c], .blk (w.heap.size + 1) 40 #[.int .i64 0, .int .i64 0, .slice none 0 0], .blk (w.heap.size + 1 + 1) 40 #[.int .i64 0, .int .i64 0, .slice none 0 0]]) (by simp)⟩
    · go_simp
      have hz11 := size_alloc1 wd (.cells #[.int .i64 0, .int .i64 0, .slice none 0 0] 40)
      replace SD := SD.box #[.int .i64 0, .int .i64 0, .slice none 0 0] 40
      simp only [List.nil_append, List.cons_append] at SD
      generalize wd.alloc (.cells #[.int .i64 0, .int .i64 0, .slice none 0 0] 40) = wz11 at *
      refine hK.out _ _ ?_ (fun hHeld => ?_)
      · (try dsimp only); exact ⟨(SD.blk 0 rfl).cell3.1, (SD.blk 0 rfl).cell3.2.1⟩
      clear hK K
      (try simp only [Act.put, List.setIfInBounds_toArray, List.set_cons_zero, List.set_cons_succ])
      refine man_two 4 10 rfl rfl (by kernel_rfl) (fun K hK => ?_) (fun K hK => ?_)
      · go_simp
        refine (zero_any a b _ ha hb).mono ?_
        rintro e wz4 ⟨B4, m4, k4, rfl, hown4, hb4⟩
        have hs4 := hb4.size
        have hw4 := SD.size
        replace SD := SD.keep hb4
        have hm4 : m4 = b * a := by have h1 := hown4.1; simp at h1; omega
        subst hm4
        obtain ⟨r1, rfl, hl1, hu1, hk1⟩ := own_form hown4 hpos
        have ho1 := own_base hown4 hw4
        clear hown4
        go_wp2_with fail
        refine hK.out _ _ ?_ (fun hHeld => ?_)
        · (try dsimp only); exact ⟨(SD.blk 0 rfl).cell3.1, (SD.blk 0 rfl).cell3.2.1⟩
        clear hK K
        (try simp only [Act.put, List.setIfInBounds_toArray, List.set_cons_zero, List.set_cons_succ])
        refine man_two 9 10 rfl rfl (by kernel_rfl) (fun K hK => ?_) (fun K hK => ?_)
        · go_simp
          refine (zero_any a b _ ha hb).mono ?_
          rintro e wz9 ⟨B9, m9, k9, rfl, hown9, hb9⟩
          have hs9 := hb9.size
          have hw9 := SD.size
          replace SD := SD.keep hb9
          replace ho1 := own_below ho1 hb9
          have hm9 : m9 = b * a := by have h1 := hown9.1; simp at h1; omega
          subst hm9
          obtain ⟨r2, rfl, hl2, hu2, hk2⟩ := own_form hown9 hpos
          have ho2 := own_base hown9 hw9
          clear hown9
          go_wp2_with fail
          refine hK.out _ _ ?_ (fun hHeld => ?_)
          · (try dsimp only); exact ⟨(SD.blk 0 rfl).cell3.1, (SD.blk 0 rfl).cell3.2.1⟩
          clear hK K
          (try simp only [Act.put, List.setIfInBounds_toArray, List.set_cons_zero, List.set_cons_succ])
          refine man_run 10 rfl (by kernel_rfl) (fun K hK => ?_)
          go_simp
          have hz10 := size_alloc1 wz9 (.cells #[.int .i64 0, .int .i64 0, .slice none 0 0] 40)
          replace SD := SD.box #[.int .i64 0, .int .i64 0, .slice none 0 0] 40
          simp only [List.nil_append, List.cons_append] at SD
          replace ho1 := ho1.alloc (.cells #[.int .i64 0, .int .i64 0, .slice none 0 0] 40)
          replace ho2 := ho2.alloc (.cells #[.int .i64 0, .int .i64 0, .slice none 0 0] 40)
          generalize wz9.alloc (.cells #[.int .i64 0, .int .i64 0, .slice none 0 0] 40) = wz10 at *
          refine hK.out _ _ ?_ (fun hHeld => ?_)
          · (try dsimp only); exact ⟨(SD.blk 0 rfl).cell3.1, (SD.blk 0 rfl).cell3.2.1⟩
          clear hK K
          (try simp only [Act.put, List.setIfInBounds_toArray, List.set_cons_zero, List.set_cons_succ])
          refine man_run 12 rfl (by kernel_rfl) (fun K hK => ?_)
          obtain ⟨y110, y111, y112⟩ := (SD.blk 3 rfl).cell3
          obtain ⟨x110, x111, x112⟩ := (SD.blk 3 rfl).frozen3
          have hB := SD.blk 4 rfl
          obtain ⟨z0, z1, z2⟩ := hB.cell3
          obtain ⟨f0, f1, f2⟩ := hB.frozen3
          go_simp
          clear z0 z1 z2 f0 f1 f2
          replace ho1 := own_set3 ho1 hB (by decide) (.int .i64 a) (.int .i64 b) (.slice (some ⟨r1, 0, none⟩) (b * a) k4)
          replace ho2 := own_set3 ho2 hB (by decide) (.int .i64 a) (.int .i64 b) (.slice (some ⟨r1, 0, none⟩) (b * a) k4)
          have SQ := ((SD.sub (L' := [.blk (w.heap.size) 24 #[.int .i64 a, .int .i64 b, .slice A (b * a) c], .blk ((w.heap.size + 1)) 40 #[.int .i64 0, .int .i64 0, .slice none 0 0], .blk ((w.heap.size + 1 + 1)) 40 #[.int .i64 0, .int .i64 0, .slice none 0 0], .blk (wd.heap.size) 40 #[.int .i64 0, .int .i64 0, .slice none 0 0]]) (by simp)).put3 (bb := wz9.heap.size) (by omega) hB ⟨(by show _ ≠ _; omega), (by show _ ≠ _; omega), (by show _ ≠ _; omega), (by show _ ≠ _; omega), trivial⟩ a b (some ⟨r1, 0, none⟩) (b * a) k4).addBlk (hB.set3 (.int .i64 a) (.int .i64 b) (.slice (some ⟨r1, 0, none⟩) (b * a) k4))
          simp only [List.nil_append, List.cons_append] at SQ
          replace SD := SQ
          clear hB SQ
          refine hK.out _ _ ?_ (fun hHeld => ?_)
          · (try dsimp only); exact ⟨(SD.blk 0 rfl).cell3.1, (SD.blk 0 rfl).cell3.2.1⟩
          clear hK K
          (try simp only [Act.put, List.setIfInBounds_toArray, List.set_cons_zero, List.set_cons_succ])
          refine man_run 13 rfl (by kernel_rfl) (fun K hK => ?_)
          have hB := SD.blk 3 rfl
          obtain ⟨z0, z1, z2⟩ := hB.cell3
          obtain ⟨f0, f1, f2⟩ := hB.frozen3
          go_simp
          clear z0 z1 z2 f0 f1 f2
          replace ho1 := own_set3 ho1 hB (by decide) (.int .i64 a) (.int .i64 b) (.slice (some ⟨r2, 0, none⟩) (b * a) k9)
          replace ho2 := own_set3 ho2 hB (by decide) (.int .i64 a) (.int .i64 b) (.slice (some ⟨r2, 0, none⟩) (b * a) k9)
          have SQ := ((SD.sub (L' := [.blk (w.heap.size) 24 #[.int .i64 a, .int .i64 b, .slice A (b * a) c], .blk ((w.heap.size + 1)) 40 #[.int .i64 0, .int .i64 0, .slice none 0 0], .blk ((w.heap.size + 1 + 1)) 40 #[.int .i64 0, .int .i64 0, .slice none 0 0], .blk (wz9.heap.size) 40 #[.int .i64 a, .int .i64 b, .slice (some ⟨r1, 0, none⟩) (b * a) k4]]) (by simp)).put3 (bb := wd.heap.size) (by omega) hB ⟨(by show _ ≠ _; omega), (by show _ ≠ _; omega), (by show _ ≠ _; omega), (by show _ ≠ _; omega), trivial⟩ a b (some ⟨r2, 0, none⟩) (b * a) k9).addBlk (hB.set3 (.int .i64 a) (.int .i64 b) (.slice (some ⟨r2, 0, none⟩) (b * a) k9))
          simp only [List.nil_append, List.cons_append] at SQ
          replace SD := SQ
          clear hB SQ
          refine hK.out _ _ ?_ (fun hHeld => ?_)
          · (try dsimp only); exact ⟨(SD.blk 0 rfl).cell3.1, (SD.blk 0 rfl).cell3.2.1⟩
          clear hK K
          (try simp only [Act.put, List.setIfInBounds_toArray, List.set_cons_zero, List.set_cons_succ])
          refine wpAnyH_done (by kernel_rfl) ?_ _
          go_wp2_with fail
          go_meet
          exact ⟨_, _, r1, r2, k4, k9, rfl, rfl, ⟨SD.blk 3 rfl, SD.blk 4 rfl, ho1, ho2, by omega, by omega, by omega, by omega⟩, SD.sub (L' := [.blk w.heap.size 24 #[.int .i64 a, .int .i64 b, .slice A (b * a) c], .blk (w.heap.size + 1) 40 #[.int .i64 0, .int .i64 0, .slice none 0 0], .blk (w.heap.size + 1 + 1) 40 #[.int .i64 0, .int .i64 0, .slice none 0 0]]) (by simp)⟩
        · go_simp
          have hz10 := size_alloc1 wz4 (.cells #[.int .i64 0, .int .i64 0, .slice none 0 0] 40)
          replace SD := SD.box #[.int .i64 0, .int .i64 0, .slice none 0 0] 40
          simp only [List.nil_append, List.cons_append] at SD
          replace ho1 := ho1.alloc (.cells #[.int .i64 0, .int .i64 0, .slice none 0 0] 40)
          generalize wz4.alloc (.cells #[.int .i64 0, .int .i64 0, .slice none 0 0] 40) = wz10 at *
          refine hK.out _ _ ?_ (fun hHeld => ?_)
          · (try dsimp only); exact ⟨(SD.blk 0 rfl).cell3.1, (SD.blk 0 rfl).cell3.2.1⟩
          clear hK K
          (try simp only [Act.put, List.setIfInBounds_toArray, List.set_cons_zero, List.set_cons_succ])
          refine man_run 9 rfl (by kernel_rfl) (fun K hK => ?_)
          go_simp
          refine (zero_any a b _ ha hb).mono ?_
          rintro e wz9 ⟨B9, m9, k9, rfl, hown9, hb9⟩
          have hs9 := hb9.size
          have hw9 := SD.size
          replace SD := SD.keep hb9
          replace ho1 := own_below ho1 hb9
          have hm9 : m9 = b * a := by have h1 := hown9.1; simp at h1; omega
          subst hm9
          obtain ⟨r2, rfl, hl2, hu2, hk2⟩ := own_form hown9 hpos
          have ho2 := own_base hown9 hw9
          clear hown9
          go_wp2_with fail
          refine hK.out _ _ ?_ (fun hHeld => ?_)
          · (try dsimp only); exact ⟨(SD.blk 0 rfl).cell3.1, (SD.blk 0 rfl).cell3.2.1⟩
          clear hK K
          (try simp only [Act.put, List.setIfInBounds_toArray, List.set_cons_zero, List.set_cons_succ])
          refine man_run 12 rfl (by kernel_rfl) (fun K hK => ?_)
          obtain ⟨y110, y111, y112⟩ := (SD.blk 3 rfl).cell3
          obtain ⟨x110, x111, x112⟩ := (SD.blk 3 rfl).frozen3
          have hB := SD.blk 4 rfl
          obtain ⟨z0, z1, z2⟩ := hB.cell3
          obtain ⟨f0, f1, f2⟩ := hB.frozen3
          go_simp
          clear z0 z1 z2 f0 f1 f2
          replace ho1 := own_set3 ho1 hB (by decide) (.int .i64 a) (.int .i64 b) (.slice (some ⟨r1, 0, none⟩) (b * a) k4)
          replace ho2 := own_set3 ho2 hB (by decide) (.int .i64 a) (.int .i64 b) (.slice (some ⟨r1, 0, none⟩) (b * a) k4)
          have SQ := ((SD.sub (L' := [.blk (w.heap.size) 24 #[.int .i64 a, .int .i64 b, .slice A (b * a) c], .blk ((w.heap.size + 1)) 40 #[.int .i64 0, .int .i64 0, .slice none 0 0], .blk ((w.heap.size + 1 + 1)) 40 #[.int .i64 0, .int .i64 0, .slice none 0 0], .blk (wd.heap.size) 40 #[.int .i64 0, .int .i64 0, .slice none 0 0]]) (by simp)).put3 (bb := wz4.heap.size) (by omega) hB ⟨(by show _ ≠ _; omega), (by show _ ≠ _; omega), (by show _ ≠ _; omega), (by show _ ≠ _; omega), trivial⟩ a b (some ⟨r1, 0, none⟩) (b * a) k4).addBlk (hB.set3 (.int .i64 a) (.int .i64 b) (.slice (some ⟨r1, 0, none⟩) (b * a) k4))
          simp only [List.nil_append, List.cons_append] at SQ
          replace SD := SQ
          clear hB SQ
          refine hK.out _ _ ?_ (fun hHeld => ?_)
          · (try dsimp only); exact ⟨(SD.blk 0 rfl).cell3.1, (SD.blk 0 rfl).cell3.2.1⟩
          clear hK K
          (try simp only [Act.put, List.setIfInBounds_toArray, List.set_cons_zero, List.set_cons_succ])
          refine man_run 13 rfl (by kernel_rfl) (fun K hK => ?_)
          have hB := SD.blk 3 rfl
          obtain ⟨z0, z1, z2⟩ := hB.cell3
          obtain ⟨f0, f1, f2⟩ := hB.frozen3
          go_simp
          clear z0 z1 z2 f0 f1 f2
          replace ho1 := own_set3 ho1 hB (by decide) (.int .i64 a) (.int .i64 b) (.slice (some ⟨r2, 0, none⟩) (b * a) k9)
          replace ho2 := own_set3 ho2 hB (by decide) (.int .i64 a) (.int .i64 b) (.slice (some ⟨r2, 0, none⟩) (b * a) k9)
          have SQ := ((SD.sub (L' := [.blk (w.heap.size) 24 #[.int .i64 a, .int .i64 b, .slice A (b * a) c], .blk ((w.heap.size + 1)) 40 #[.int .i64 0, .int .i64 0, .slice none 0 0], .blk ((w.heap.size + 1 + 1)) 40 #[.int .i64 0, .int .i64 0, .slice none 0 0], .blk (wz4.heap.size) 40 #[.int .i64 a, .int .i64 b, .slice (some ⟨r1, 0, none⟩) (b * a) k4]]) (by simp)).put3 (bb := wd.heap.size) (by omega) hB ⟨(by show _ ≠ _; omega), (by show _ ≠ _; omega), (by show _ ≠ _; omega), (by show _ ≠ _; omega), trivial⟩ a b (some ⟨r2, 0, none⟩) (b * a) k9).addBlk (hB.set3 (.int .i64 a) (.int .i64 b) (.slice (some ⟨r2, 0, none⟩) (b * a) k9))
          simp only [List.nil_append, List.cons_append] at SQ
          replace SD := SQ
          clear hB SQ
          refine hK.out _ _ ?_ (fun hHeld => ?_)
          · (try dsimp only); exact ⟨(SD.blk 0 rfl).cell3.1, (SD.blk 0 rfl).cell3.2.1⟩
          clear hK K
          (try simp only [Act.put, List.setIfInBounds_toArray, List.set_cons_zero, List.set_cons_succ])
          refine wpAnyH_done (by kernel_rfl) ?_ _
          go_wp2_with fail
          go_meet
          exact ⟨_, _, r1, r2, k4, k9, rfl, rfl, ⟨SD.blk 3 rfl, SD.blk 4 rfl, ho1, ho2, by omega, by omega, by omega, by omega⟩, SD.sub (L' := [.blk w.heap.size 24 #[.int .i64 a, .int .i64 b, .slice A (b * a) c], .blk (w.heap.size + 1) 40 #[.int .i64 0, .int .i64 0, .slice none 0 0], .blk (w.heap.size + 1 + 1) 40 #[.int .i64 0, .int .i64 0, .slice none 0 0]]) (by simp)⟩
      · go_simp
        have hz10 := size_alloc1 wz11 (.cells #[.int .i64 0, .int .i64 0, .slice none 0 0] 40)
        replace SD := SD.box #[.int .i64 0, .int .i64 0, .slice none 0 0] 40
        simp only [List.nil_append, List.cons_append] at SD
        rw [hz11] at hz10
        simp only [hz11] at SD
        generalize wz11.alloc (.cells #[.int .i64 0, .int .i64 0, .slice none 0 0] 40) = wz10 at *
        refine hK.out _ _ ?_ (fun hHeld => ?_)
        · (try dsimp only); exact ⟨(SD.blk 0 rfl).cell3.1, (SD.blk 0 rfl).cell3.2.1⟩
        clear hK K
        (try simp only [Act.put, List.setIfInBounds_toArray, List.set_cons_zero, List.set_cons_succ])
        refine man_run 4 rfl (by kernel_rfl) (fun K hK => ?_)
        go_simp
        refine (zero_any a b _ ha hb).mono ?_
        rintro e wz4 ⟨B4, m4, k4, rfl, hown4, hb4⟩
        have hs4 := hb4.size
        have hw4 := SD.size
        replace SD := SD.keep hb4
        have hm4 : m4 = b * a := by have h1 := hown4.1; simp at h1; omega
        subst hm4
        obtain ⟨r1, rfl, hl1, hu1, hk1⟩ := own_form hown4 hpos
        have ho1 := own_base hown4 hw4
        clear hown4
        go_wp2_with fail
        refine hK.out _ _ ?_ (fun hHeld => ?_)
        · (try dsimp only); exact ⟨(SD.blk 0 rfl).cell3.1, (SD.blk 0 rfl).cell3.2.1⟩
        clear hK K
        (try simp only [Act.put, List.setIfInBounds_toArray, List.set_cons_zero, List.set_cons_succ])
        refine man_run 9 rfl (by kernel_rfl) (fun K hK => ?_)
        go_simp
        refine (zero_any a b _ ha hb).mono ?_
        rintro e wz9 ⟨B9, m9, k9, rfl, hown9, hb9⟩
        have hs9 := hb9.size
        have hw9 := SD.size
        replace SD := SD.keep hb9
        replace ho1 := own_below ho1 hb9
        have hm9 : m9 = b * a := by have h1 := hown9.1; simp at h1; omega
        subst hm9
        obtain ⟨r2, rfl, hl2, hu2, hk2⟩ := own_form hown9 hpos
        have ho2 := own_base hown9 hw9
        clear hown9
        go_wp2_with fail
        refine hK.out _ _ ?_ (fun hHeld => ?_)
        · (try dsimp only); exact ⟨(SD.blk 0 rfl).cell3.1, (SD.blk 0 rfl).cell3.2.1⟩
        clear hK K
        (try simp only [Act.put, List.setIfInBounds_toArray, List.set_cons_zero, List.set_cons_succ])
        refine man_run 12 rfl (by kernel_rfl) (fun K hK => ?_)
        obtain ⟨y110, y111, y112⟩ := (SD.blk 3 rfl).cell3
        obtain ⟨x110, x111, x112⟩ := (SD.blk 3 rfl).frozen3
        have hB := SD.blk 4 rfl
        obtain ⟨z0, z1, z2⟩ := hB.cell3
        obtain ⟨f0, f1, f2⟩ := hB.frozen3
        go_simp
        clear z0 z1 z2 f0 f1 f2
        replace ho1 := own_set3 ho1 hB (by decide) (.int .i64 a) (.int .i64 b) (.slice (some ⟨r1, 0, none⟩) (b * a) k4)
        replace ho2 := own_set3 ho2 hB (by decide) (.int .i64 a) (.int .i64 b) (.slice (some ⟨r1, 0, none⟩) (b * a) k4)
        have SQ := ((SD.sub (L' := [.blk (w.heap.size) 24 #[.int .i64 a, .int .i64 b, .slice A (b * a) c], .blk ((w.heap.size + 1)) 40 #[.int .i64 0, .int .i64 0, .slice none 0 0], .blk ((w.heap.size + 1 + 1)) 40 #[.int .i64 0, .int .i64 0, .slice none 0 0], .blk (wd.heap.size) 40 #[.int .i64 0, .int .i64 0, .slice none 0 0]]) (by simp)).put3 (bb := (wd.heap.size + 1)) (by omega) hB ⟨(by show _ ≠ _; omega), (by show _ ≠ _; omega), (by show _ ≠ _; omega), (by show _ ≠ _; omega), trivial⟩ a b (some ⟨r1, 0, none⟩) (b * a) k4).addBlk (hB.set3 (.int .i64 a) (.int .i64 b) (.slice (some ⟨r1, 0, none⟩) (b * a) k4))
        simp only [List.nil_append, List.cons_append] at SQ
        replace SD := SQ
        clear hB SQ
        refine hK.out _ _ ?_ (fun hHeld => ?_)
        · (try dsimp only); exact ⟨(SD.blk 0 rfl).cell3.1, (SD.blk 0 rfl).cell3.2.1⟩
        clear hK K
        (try simp only [Act.put, List.setIfInBounds_toArray, List.set_cons_zero, List.set_cons_succ])
        refine man_run 13 rfl (by kernel_rfl) (fun K hK => ?_)
        have hB := SD.blk 3 rfl
        obtain ⟨z0, z1, z2⟩ := hB.cell3
        obtain ⟨f0, f1, f2⟩ := hB.frozen3
        go_simp
        clear z0 z1 z2 f0 f1 f2
        replace ho1 := own_set3 ho1 hB (by decide) (.int .i64 a) (.int .i64 b) (.slice (some ⟨r2, 0, none⟩) (b * a) k9)
        replace ho2 := own_set3 ho2 hB (by decide) (.int .i64 a) (.int .i64 b) (.slice (some ⟨r2, 0, none⟩) (b * a) k9)
        have SQ := ((SD.sub (L' := [.blk (w.heap.size) 24 #[.int .i64 a, .int .i64 b, .slice A (b * a) c], .blk ((w.heap.size + 1)) 40 #[.int .i64 0, .int .i64 0, .slice none 0 0], .blk ((w.heap.size + 1 + 1)) 40 #[.int .i64 0, .int .i64 0, .slice none 0 0], .blk ((wd.heap.size + 1)) 40 #[.int .i64 a, .int .i64 b, .slice (some ⟨r1, 0, none⟩) (b * a) k4]]) (by simp)).put3 (bb := wd.heap.size) (by omega) hB ⟨(by show _ ≠ _; omega), (by show _ ≠ _; omega), (by show _ ≠ _; omega), (by show _ ≠ _; omega), trivial⟩ a b (some ⟨r2, 0, none⟩) (b * a) k9).addBlk (hB.set3 (.int .i64 a) (.int .i64 b) (.slice (some ⟨r2, 0, none⟩) (b * a) k9))
        simp only [List.nil_append, List.cons_append] at SQ
        replace SD := SQ
        clear hB SQ
        refine hK.out _ _ ?_ (fun hHeld => ?_)
        · (try dsimp only); exact ⟨(SD.blk 0 rfl).cell3.1, (SD.blk 0 rfl).cell3.2.1⟩
        clear hK K
        (try simp only [Act.put, List.setIfInBounds_toArray, List.set_cons_zero, List.set_cons_succ])
        refine wpAnyH_done (by kernel_rfl) ?_ _
        go_wp2_with fail
        go_meet
        exact ⟨_, _, r1, r2, k4, k9, rfl, rfl, ⟨SD.blk 3 rfl, SD.blk 4 rfl, ho1, ho2, by omega, by omega, by omega, by omega⟩, SD.sub (L' := [.blk w.heap.size 24 #[.int .i64 a, .int .i64 b, .slice A (b * a) c], .blk (w.heap.size + 1) 40 #[.int .i64 0, .int .i64 0, .slice none 0 0], .blk (w.heap.size + 1 + 1) 40 #[.int .i64 0, .int .i64 0, .slice none 0 0]]) (by simp)⟩
  case rest =>
    obtain ⟨g1, g2, r1, r2, k1, k2, rfl, rfl, HZ, S2⟩ := hcut
    clear S c0 c1 c2
    have hI := S2.blk 0 rfl
    have hR1 := S2.blk 1 rfl
    have hR2 := S2.blk 2 rfl
    have hbel := S2.below
    clear S2
    obtain ⟨c0, c1, c2⟩ := hI.cell3
    go_wp2_with fail
    go_loopw [11] (fun i wr => ∃ (x : Nat) (l1 l2 : List Bool), x ≤ a ∧ i = .int .i64 x ∧ Pl.Fill (b * a) b (fun x y => y * a + x) (upF a cs q) l1 x 0 ∧ Pl.Fill (b * a) b (fun x y => y * a + x) (openF a cs p q) l2 x 0 ∧
        Zwo w.heap.size wr g1 g2 r1 r2 k1 k2 a b l1 l2 ∧ Blk wr w.heap.size 24 #[.int .i64 a, .int .i64 b, .slice A (b * a) c] ∧ Blk wr (w.heap.size + 1) 40 #[.int .i64 0, .int .i64 0, .slice none 0 0] ∧ Blk wr (w.heap.size + 1 + 1) 40 #[.int .i64 0, .int .i64 0, .slice none 0 0] ∧ Below w.heap.size w wr)
      (fun i _ => a - (intOf i).toNat)
    case atStart => exact ⟨0, _, _, Nat.zero_le _, rfl, Pl.Fill.start (by simp), Pl.Fill.start (by simp), HZ, hI, hR1, hR2, hbel⟩
    case round =>
      clear HZ hI hR1 hR2 hbel c0 c1 c2
      obtain ⟨x, l1, l2, hx, rfl, hf1, hf2, HZ, hI, hR1, hR2, hbel⟩ := hrel
      obtain ⟨c0, c1, c2⟩ := hI.cell3
      by_cases hltx : x < a
      · go_wp2_with fail
        go_loopw [12] (fun i wr => ∃ (y : Nat) (l1 l2 : List Bool), y ≤ b ∧ i = .int .i64 y ∧ Pl.Fill (b * a) b (fun x y => y * a + x) (upF a cs q) l1 x y ∧ Pl.Fill (b * a) b (fun x y => y * a + x) (openF a cs p q) l2 x y ∧
            Zwo w.heap.size wr g1 g2 r1 r2 k1 k2 a b l1 l2 ∧ Blk wr w.heap.size 24 #[.int .i64 a, .int .i64 b, .slice A (b * a) c] ∧ Blk wr (w.heap.size + 1) 40 #[.int .i64 0, .int .i64 0, .slice none 0 0] ∧ Blk wr (w.heap.size + 1 + 1) 40 #[.int .i64 0, .int .i64 0, .slice none 0 0] ∧ Below w.heap.size w wr)
          (fun i _ => b - (intOf i).toNat)
        case atStart => exact ⟨0, l1, l2, Nat.zero_le _, rfl, hf1, hf2, HZ, hI, hR1, hR2, hbel⟩
        case round =>
          clear hf1 hf2 HZ hI hR1 hR2 hbel c0 c1 c2 l1 l2
          obtain ⟨y, l1, l2, hy, rfl, hf1, hf2, HZ, hI, hR1, hR2, hbel⟩ := hrel
          obtain ⟨c0, c1, c2⟩ := hI.cell3
          by_cases hlty : y < b
          · obtain ⟨z, hz⟩ : ∃ z, cs.getD (y * a + x) 0 = z := ⟨_, rfl⟩
            have HATk := Lib.hid (fun WW hh => HAT.out x y z WW hz hltx hlty hh)
            have HU := Lib.hid (show upF a cs q x y = (q.getD y 0 != z) by unfold upF; rw [hz]; rfl)
            have HO := Lib.hid (show openF a cs p q x y = ((p.getD x 0 == z) && (q.getD y 0 == z)) by unfold openF; rw [hz]; rfl)
            have HP := Lib.hid (HKP.out x hltx)
            have HQ := Lib.hid (HKQ.out y hlty)
            have hcl := Pl.cell_lt (w := a) (h := b) hltx hlty
            have HF1 := Lib.hid (fun u (hu : u = upF a cs q x y) => hf1.set (W := a) hltx hlty hcl (fun x' y' hx' hy' e => Pl.cell_inj hltx hx' e) hu)
            have HF2 := Lib.hid (fun u (hu : u = openF a cs p q x y) => hf2.set (W := a) hltx hlty hcl (fun x' y' hx' hy' e => Pl.cell_inj hltx hx' e) hu)
            clear hz hcl hf1 hf2
            generalize p.getD x 0 = u at *
            generalize q.getD y 0 = v at *
            go_wp2_with fail
            refine (HATk.out _ (HR.out _ hbel)).mono ?_
            rintro e wa ⟨rfl, hba⟩
            replace HZ := HZ.keep hba
            replace hI := hI.keep hba
            replace hR1 := hR1.keep hba
            replace hR2 := hR2.keep hba
            replace hbel := below_then hbel hba
            clear hba c0 c1 c2
            go_wp2_with fail
            replace HZ := HZ.drew
            replace hI := hI.drew
            replace hR1 := hR1.drew
            replace hR2 := hR2.drew
            replace hbel := hbel.drew
            refine wp_region_held_drew (S := (fun w' => (w'.cell? ⟨g1, 0, none⟩ = some (.int .i64 a) ∧ w'.cell? ⟨g1, 1, none⟩ = some (.int .i64 b) ∧ w'.cell? ⟨g1, 2, none⟩ = some (.slice (some ⟨r1, 0, none⟩) (b * a) k1)) ∧ w'.cell? ⟨bq, oq + y, none⟩ = some (.int .i64 v))) (by kernel_rfl) ?_ (fun hHeld => ?_)
            · (try dsimp only); exact ⟨HZ.b1.cell3, HQ.out _ hbel⟩
            refine man_take 0 58 (v := ?_) ⟨_, rfl, rfl⟩ (by kernel_rfl) (by kernel_rfl) (by kernel_rfl) (fun _ _ _ h => h) (by assumption) ?_ ?_
            rotate_left
            · intro oi ho; cases ho; refine ⟨by rfl, ?_⟩; intro w hSw; (try dsimp only at hSw); go_simp; try with_reducible rfl
            (try simp only [Act.put, List.setIfInBounds_toArray, List.set_cons_zero, List.set_cons_succ])
            refine man_take 1 59 (v := ?_) ⟨_, rfl, rfl⟩ (by kernel_rfl) (by kernel_rfl) (by kernel_rfl) (fun _ _ _ h => h) (by assumption) ?_ ?_
            rotate_left
            · intro oi ho; cases ho; refine ⟨by rfl, ?_⟩; intro w hSw; (try dsimp only at hSw); go_simp; try with_reducible rfl
            (try simp only [Act.put, List.setIfInBounds_toArray, List.set_cons_zero, List.set_cons_succ])
            refine man_take 2 60 (v := ?_) ⟨_, rfl, rfl⟩ (by kernel_rfl) (by kernel_rfl) (by kernel_rfl) (fun _ _ _ h => h) (by assumption) ?_ ?_
            rotate_left
            · intro oi ho; cases ho; refine ⟨by rfl, ?_⟩; intro w hSw; (try dsimp only at hSw); go_simp; try with_reducible rfl
            (try simp only [Act.put, List.setIfInBounds_toArray, List.set_cons_zero, List.set_cons_succ])
            refine man_take 3 61 (v := ?_) ⟨_, rfl, rfl⟩ (by kernel_rfl) (by kernel_rfl) (by kernel_rfl) (fun _ _ _ h => h) (by assumption) ?_ ?_
            rotate_left
            · intro oi ho; cases ho; refine ⟨by rfl, ?_⟩; intro w hSw; (try dsimp only at hSw); go_simp; try with_reducible rfl
            (try simp only [Act.put, List.setIfInBounds_toArray, List.set_cons_zero, List.set_cons_succ])
            refine man_take 4 62 (v := ?_) ⟨_, rfl, rfl⟩ (by kernel_rfl) (by kernel_rfl) (by kernel_rfl) (fun _ _ _ h => h) (by assumption) ?_ ?_
            rotate_left
            · intro oi ho; cases ho; refine ⟨by rfl, ?_⟩; intro w hSw; (try dsimp only at hSw); go_simp; try with_reducible rfl
            (try simp only [Act.put, List.setIfInBounds_toArray, List.set_cons_zero, List.set_cons_succ])
            refine man_take 5 63 (v := ?_) ⟨_, rfl, rfl⟩ (by kernel_rfl) (by kernel_rfl) (by kernel_rfl) (fun _ _ _ h => h) (by assumption) ?_ ?_
            rotate_left
            · intro oi ho; cases ho; refine ⟨by rfl, ?_⟩; intro w hSw; (try dsimp only at hSw); go_simp; try with_reducible rfl
            (try simp only [Act.put, List.setIfInBounds_toArray, List.set_cons_zero, List.set_cons_succ])
            refine man_take 6 64 (v := ?_) ⟨_, rfl, rfl⟩ (by kernel_rfl) (by kernel_rfl) (by kernel_rfl) (fun _ _ _ h => h) (by assumption) ?_ ?_
            rotate_left
            · intro oi ho; cases ho; refine ⟨by rfl, ?_⟩; intro w hSw; (try dsimp only at hSw); go_simp; try with_reducible rfl
            (try simp only [Act.put, List.setIfInBounds_toArray, List.set_cons_zero, List.set_cons_succ])
            refine man_take 7 65 (v := ?_) ⟨_, rfl, rfl⟩ (by kernel_rfl) (by kernel_rfl) (by kernel_rfl) (fun _ _ _ h => h) (by assumption) ?_ ?_
            rotate_left
            · intro oi ho; cases ho; refine ⟨by rfl, ?_⟩; intro w hSw; (try dsimp only at hSw); go_simp; try with_reducible rfl
            (try simp only [Act.put, List.setIfInBounds_toArray, List.set_cons_zero, List.set_cons_succ])
            refine man_take 8 66 (v := ?_) ⟨_, rfl, rfl⟩ (by kernel_rfl) (by kernel_rfl) (by kernel_rfl) (fun _ _ _ h => h) (by assumption) ?_ ?_
            rotate_left
            · intro oi ho; cases ho; refine ⟨by rfl, ?_⟩; intro w hSw; (try dsimp only at hSw); go_simp; try with_reducible rfl
            (try simp only [Act.put, List.setIfInBounds_toArray, List.set_cons_zero, List.set_cons_succ])
            refine man_run 9 rfl (by kernel_rfl) (fun K hK => ?_)
            go_simp
            refine (set_any a b x y w.heap.size r1 k1 l1 b (v != z) _ ha hb hltx hlty HZ.o1).mono ?_
            rintro e wb ⟨rfl, hown5, hgr5⟩
            have hI5 := hI.grown hgr5 (own_blk_ne HZ.o1 hI (by decide))
            have hR15 := hR1.grown hgr5 (own_blk_ne HZ.o1 hR1 (by decide))
            have hR25 := hR2.grown hgr5 (own_blk_ne HZ.o1 hR2 (by decide))
            have hbel5 := hbel.grown hgr5 hbel.size (fun k hk => (HZ.o1.lt k hk).1)
            have HZ5 := HZ.fst hown5 hgr5
            clear HZ hI hR1 hR2 hbel hown5 hgr5
            have HZ := HZ5
            have hI := hI5
            have hR1 := hR15
            have hR2 := hR25
            have hbel := hbel5
            clear HZ5 hI5 hR15 hR25 hbel5
            go_wp2_with fail
            refine hK.out _ _ ?_ (fun hHeld => ?_)
            · (try dsimp only); exact ⟨HZ.b1.cell3, HQ.out _ hbel⟩
            clear hK K
            (try simp only [Act.put, List.setIfInBounds_toArray, List.set_cons_zero, List.set_cons_succ])
            refine wpAnyH_done (by kernel_rfl) ?_ _
            by_cases h1 : u = z
            · have e1 : (u == z) = true := by simp [h1]
              rw [e1, Bool.true_and] at HO
              clear h1
              go_wp2_with fail
              replace HZ := HZ.drew
              replace hI := hI.drew
              replace hR1 := hR1.drew
              replace hR2 := hR2.drew
              replace hbel := hbel.drew
              refine wp_region_held_drew (S := (fun w' => (w'.cell? ⟨g2, 0, none⟩ = some (.int .i64 a) ∧ w'.cell? ⟨g2, 1, none⟩ = some (.int .i64 b) ∧ w'.cell? ⟨g2, 2, none⟩ = some (.slice (some ⟨r2, 0, none⟩) (b * a) k2)) ∧ w'.cell? ⟨bp, op + x, none⟩ = some (.int .i64 u) ∧ w'.cell? ⟨bq, oq + y, none⟩ = some (.int .i64 v))) (by kernel_rfl) ?_ (fun hHeld => ?_)
              · (try dsimp only); exact ⟨HZ.b2.cell3, HP.out _ hbel, HQ.out _ hbel⟩
              refine man_take 0 68 (v := ?_) ⟨_, rfl, rfl⟩ (by kernel_rfl) (by kernel_rfl) (by kernel_rfl) (fun _ _ _ h => h) (by assumption) ?_ ?_
              rotate_left
              · intro oi ho; cases ho; refine ⟨by rfl, ?_⟩; intro w hSw; (try dsimp only at hSw); go_simp; try with_reducible rfl
              (try simp only [Act.put, List.setIfInBounds_toArray, List.set_cons_zero, List.set_cons_succ])
              refine man_take 1 69 (v := ?_) ⟨_, rfl, rfl⟩ (by kernel_rfl) (by kernel_rfl) (by kernel_rfl) (fun _ _ _ h => h) (by assumption) ?_ ?_
              rotate_left
              · intro oi ho; cases ho; refine ⟨by rfl, ?_⟩; intro w hSw; (try dsimp only at hSw); go_simp; try with_reducible rfl
              (try simp only [Act.put, List.setIfInBounds_toArray, List.set_cons_zero, List.set_cons_succ])
              refine man_take 2 70 (v := ?_) ⟨_, rfl, rfl⟩ (by kernel_rfl) (by kernel_rfl) (by kernel_rfl) (fun _ _ _ h => h) (by assumption) ?_ ?_
              rotate_left
              · intro oi ho; cases ho; refine ⟨by rfl, ?_⟩; intro w hSw; (try dsimp only at hSw); go_simp; try with_reducible rfl
              (try simp only [Act.put, List.setIfInBounds_toArray, List.set_cons_zero, List.set_cons_succ])
              refine man_take 3 71 (v := ?_) ⟨_, rfl, rfl⟩ (by kernel_rfl) (by kernel_rfl) (by kernel_rfl) (fun _ _ _ h => h) (by assumption) ?_ ?_
              rotate_left
              · intro oi ho; cases ho; refine ⟨by rfl, ?_⟩; intro w hSw; (try dsimp only at hSw); go_simp; try with_reducible rfl
              (try simp only [Act.put, List.setIfInBounds_toArray, List.set_cons_zero, List.set_cons_succ])
              refine man_take 4 72 (v := ?_) ⟨_, rfl, rfl⟩ (by kernel_rfl) (by kernel_rfl) (by kernel_rfl) (fun _ _ _ h => h) (by assumption) ?_ ?_
              rotate_left
              · intro oi ho; cases ho; refine ⟨by rfl, ?_⟩; intro w hSw; (try dsimp only at hSw); go_simp; try with_reducible rfl
              (try simp only [Act.put, List.setIfInBounds_toArray, List.set_cons_zero, List.set_cons_succ])
              refine man_take 5 73 (v := ?_) ⟨_, rfl, rfl⟩ (by kernel_rfl) (by kernel_rfl) (by kernel_rfl) (fun _ _ _ h => h) (by assumption) ?_ ?_
              rotate_left
              · intro oi ho; cases ho; refine ⟨by rfl, ?_⟩; intro w hSw; (try dsimp only at hSw); go_simp; try with_reducible rfl
              (try simp only [Act.put, List.setIfInBounds_toArray, List.set_cons_zero, List.set_cons_succ])
              refine man_take 6 74 (v := ?_) ⟨_, rfl, rfl⟩ (by kernel_rfl) (by kernel_rfl) (by kernel_rfl) (fun _ _ _ h => h) (by assumption) ?_ ?_
              rotate_left
              · intro oi ho; cases ho; refine ⟨by rfl, ?_⟩; intro w hSw; (try dsimp only at hSw); go_simp; try with_reducible rfl
              (try simp only [Act.put, List.setIfInBounds_toArray, List.set_cons_zero, List.set_cons_succ])
              refine man_take 7 75 (v := ?_) ⟨_, rfl, rfl⟩ (by kernel_rfl) (by kernel_rfl) (by kernel_rfl) (fun _ _ _ h => h) (by assumption) ?_ ?_
              rotate_left
              · intro oi ho; cases ho; refine ⟨by rfl, ?_⟩; intro w hSw; (try dsimp only at hSw); go_simp; try with_reducible rfl
              (try simp only [Act.put, List.setIfInBounds_toArray, List.set_cons_zero, List.set_cons_succ])
              refine man_take 8 76 (v := ?_) ⟨_, rfl, rfl⟩ (by kernel_rfl) (by kernel_rfl) (by kernel_rfl) (fun _ _ _ h => h) (by assumption) ?_ ?_
              rotate_left
              · intro oi ho; cases ho; refine ⟨by rfl, ?_⟩; intro w hSw; (try dsimp only at hSw); go_simp; try with_reducible rfl
              (try simp only [Act.put, List.setIfInBounds_toArray, List.set_cons_zero, List.set_cons_succ])
              refine man_take 9 77 (v := ?_) ⟨_, rfl, rfl⟩ (by kernel_rfl) (by kernel_rfl) (by kernel_rfl) (fun _ _ _ h => h) (by assumption) ?_ ?_
              rotate_left
              · intro oi ho; cases ho; refine ⟨by rfl, ?_⟩; intro w hSw; (try dsimp only at hSw); go_simp; try with_reducible rfl
              (try simp only [Act.put, List.setIfInBounds_toArray, List.set_cons_zero, List.set_cons_succ])
              refine man_take 10 78 (v := ?_) ⟨_, rfl, rfl⟩ (by kernel_rfl) (by kernel_rfl) (by kernel_rfl) (fun _ _ _ h => h) (by assumption) ?_ ?_
              rotate_left
              · intro oi ho; cases ho; refine ⟨by rfl, ?_⟩; intro w hSw; (try dsimp only at hSw); go_simp; try with_reducible rfl
              (try simp only [Act.put, List.setIfInBounds_toArray, List.set_cons_zero, List.set_cons_succ])
              refine man_take 11 79 (v := ?_) ⟨_, rfl, rfl⟩ (by kernel_rfl) (by kernel_rfl) (by kernel_rfl) (fun _ _ _ h => h) (by assumption) ?_ ?_
              rotate_left
              · intro oi ho; cases ho; refine ⟨by rfl, ?_⟩; intro w hSw; (try dsimp only at hSw); go_simp; try with_reducible rfl
              (try simp only [Act.put, List.setIfInBounds_toArray, List.set_cons_zero, List.set_cons_succ])
              refine man_take 12 80 (v := ?_) ⟨_, rfl, rfl⟩ (by kernel_rfl) (by kernel_rfl) (by kernel_rfl) (fun _ _ _ h => h) (by assumption) ?_ ?_
              rotate_left
              · intro oi ho; cases ho; refine ⟨by rfl, ?_⟩; intro w hSw; (try dsimp only at hSw); go_simp; try with_reducible rfl
              (try simp only [Act.put, List.setIfInBounds_toArray, List.set_cons_zero, List.set_cons_succ])
              refine man_take 13 81 (v := ?_) ⟨_, rfl, rfl⟩ (by kernel_rfl) (by kernel_rfl) (by kernel_rfl) (fun _ _ _ h => h) (by assumption) ?_ ?_
              rotate_left
              · intro oi ho; cases ho; refine ⟨by rfl, ?_⟩; intro w hSw; (try dsimp only at hSw); go_simp; try with_reducible rfl
              (try simp only [Act.put, List.setIfInBounds_toArray, List.set_cons_zero, List.set_cons_succ])
              refine man_take 14 82 (v := ?_) ⟨_, rfl, rfl⟩ (by kernel_rfl) (by kernel_rfl) (by kernel_rfl) (fun _ _ _ h => h) (by assumption) ?_ ?_
              rotate_left
              · intro oi ho; cases ho; refine ⟨by rfl, ?_⟩; intro w hSw; (try dsimp only at hSw); go_simp; try with_reducible rfl
              (try simp only [Act.put, List.setIfInBounds_toArray, List.set_cons_zero, List.set_cons_succ])
              refine man_take 15 83 (v := ?_) ⟨_, rfl, rfl⟩ (by kernel_rfl) (by kernel_rfl) (by kernel_rfl) (fun _ _ _ h => h) (by assumption) ?_ ?_
              rotate_left
              · intro oi ho; cases ho; refine ⟨by rfl, ?_⟩; intro w hSw; (try dsimp only at hSw); go_simp; try with_reducible rfl
              (try simp only [Act.put, List.setIfInBounds_toArray, List.set_cons_zero, List.set_cons_succ])
              refine man_take 16 84 (v := ?_) ⟨_, rfl, rfl⟩ (by kernel_rfl) (by kernel_rfl) (by kernel_rfl) (fun _ _ _ h => h) (by assumption) ?_ ?_
              rotate_left
              · intro oi ho; cases ho; refine ⟨by rfl, ?_⟩; intro w hSw; (try dsimp only at hSw); go_simp; try with_reducible rfl
              (try simp only [Act.put, List.setIfInBounds_toArray, List.set_cons_zero, List.set_cons_succ])
              refine man_run 17 rfl (by kernel_rfl) (fun K hK => ?_)
              go_simp
              refine (set_any a b x y w.heap.size r2 k2 l2 b (v == z) _ ha hb hltx hlty HZ.o2).mono ?_
              rintro e wc ⟨rfl, hown6, hgr6⟩
              have hI6 := hI.grown hgr6 (own_blk_ne HZ.o2 hI (by decide))
              have hR16 := hR1.grown hgr6 (own_blk_ne HZ.o2 hR1 (by decide))
              have hR26 := hR2.grown hgr6 (own_blk_ne HZ.o2 hR2 (by decide))
              have hbel6 := hbel.grown hgr6 hbel.size (fun k hk => (HZ.o2.lt k hk).1)
              have HZ6 := HZ.snd hown6 hgr6
              clear HZ hI hR1 hR2 hbel hown6 hgr6
              have HZ := HZ6
              have hI := hI6
              have hR1 := hR16
              have hR2 := hR26
              have hbel := hbel6
              clear HZ6 hI6 hR16 hR26 hbel6
              go_wp2_with fail
              refine hK.out _ _ ?_ (fun hHeld => ?_)
              · (try dsimp only); exact ⟨HZ.b2.cell3, HP.out _ hbel, HQ.out _ hbel⟩
              clear hK K
              (try simp only [Act.put, List.setIfInBounds_toArray, List.set_cons_zero, List.set_cons_succ])
              refine wpAnyH_done (by kernel_rfl) ?_ _
              go_wp2_with fail
              go_roundw
              case rel => exact ⟨y + 1, _, _, by omega, by go_num, HF1.out _ HU.out.symm, HF2.out _ HO.out.symm, HZ, hI, hR1, hR2, hbel⟩
              case measure => simp [intOf]; omega
            · have e1 : (u == z) = false := by simp [h1]
              rw [e1, Bool.false_and] at HO
              clear h1
              go_wp2_with fail
              replace HZ := HZ.drew
              replace hI := hI.drew
              replace hR1 := hR1.drew
              replace hR2 := hR2.drew
              replace hbel := hbel.drew
              refine wp_region_held_drew (S := (fun w' => (w'.cell? ⟨g2, 0, none⟩ = some (.int .i64 a) ∧ w'.cell? ⟨g2, 1, none⟩ = some (.int .i64 b) ∧ w'.cell? ⟨g2, 2, none⟩ = some (.slice (some ⟨r2, 0, none⟩) (b * a) k2)) ∧ w'.cell? ⟨bp, op + x, none⟩ = some (.int .i64 u) ∧ w'.cell? ⟨bq, oq + y, none⟩ = some (.int .i64 v))) (by kernel_rfl) ?_ (fun hHeld => ?_)
              · (try dsimp only); exact ⟨HZ.b2.cell3, HP.out _ hbel, HQ.out _ hbel⟩
              refine man_take 0 68 (v := ?_) ⟨_, rfl, rfl⟩ (by kernel_rfl) (by kernel_rfl) (by kernel_rfl) (fun _ _ _ h => h) (by assumption) ?_ ?_
              rotate_left
              · intro oi ho; cases ho; refine ⟨by rfl, ?_⟩; intro w hSw; (try dsimp only at hSw); go_simp; try with_reducible rfl
              (try simp only [Act.put, List.setIfInBounds_toArray, List.set_cons_zero, List.set_cons_succ])
              refine man_take 1 69 (v := ?_) ⟨_, rfl, rfl⟩ (by kernel_rfl) (by kernel_rfl) (by kernel_rfl) (fun _ _ _ h => h) (by assumption) ?_ ?_
              rotate_left
              · intro oi ho; cases ho; refine ⟨by rfl, ?_⟩; intro w hSw; (try dsimp only at hSw); go_simp; try with_reducible rfl
              (try simp only [Act.put, List.setIfInBounds_toArray, List.set_cons_zero, List.set_cons_succ])
              refine man_take 2 70 (v := ?_) ⟨_, rfl, rfl⟩ (by kernel_rfl) (by kernel_rfl) (by kernel_rfl) (fun _ _ _ h => h) (by assumption) ?_ ?_
              rotate_left
              · intro oi ho; cases ho; refine ⟨by rfl, ?_⟩; intro w hSw; (try dsimp only at hSw); go_simp; try with_reducible rfl
              (try simp only [Act.put, List.setIfInBounds_toArray, List.set_cons_zero, List.set_cons_succ])
              refine man_take 3 71 (v := ?_) ⟨_, rfl, rfl⟩ (by kernel_rfl) (by kernel_rfl) (by kernel_rfl) (fun _ _ _ h => h) (by assumption) ?_ ?_
              rotate_left
              · intro oi ho; cases ho; refine ⟨by rfl, ?_⟩; intro w hSw; (try dsimp only at hSw); go_simp; try with_reducible rfl
              (try simp only [Act.put, List.setIfInBounds_toArray, List.set_cons_zero, List.set_cons_succ])
              refine man_take 4 72 (v := ?_) ⟨_, rfl, rfl⟩ (by kernel_rfl) (by kernel_rfl) (by kernel_rfl) (fun _ _ _ h => h) (by assumption) ?_ ?_
              rotate_left
              · intro oi ho; cases ho; refine ⟨by rfl, ?_⟩; intro w hSw; (try dsimp only at hSw); go_simp; try with_reducible rfl
              (try simp only [Act.put, List.setIfInBounds_toArray, List.set_cons_zero, List.set_cons_succ])
              refine man_take 5 73 (v := ?_) ⟨_, rfl, rfl⟩ (by kernel_rfl) (by kernel_rfl) (by kernel_rfl) (fun _ _ _ h => h) (by assumption) ?_ ?_
              rotate_left
              · intro oi ho; cases ho; refine ⟨by rfl, ?_⟩; intro w hSw; (try dsimp only at hSw); go_simp; try with_reducible rfl
              (try simp only [Act.put, List.setIfInBounds_toArray, List.set_cons_zero, List.set_cons_succ])
              refine man_take 6 74 (v := ?_) ⟨_, rfl, rfl⟩ (by kernel_rfl) (by kernel_rfl) (by kernel_rfl) (fun _ _ _ h => h) (by assumption) ?_ ?_
              rotate_left
              · intro oi ho; cases ho; refine ⟨by rfl, ?_⟩; intro w hSw; (try dsimp only at hSw); go_simp; try with_reducible rfl
              (try simp only [Act.put, List.setIfInBounds_toArray, List.set_cons_zero, List.set_cons_succ])
              refine man_take 7 75 (v := ?_) ⟨_, rfl, rfl⟩ (by kernel_rfl) (by kernel_rfl) (by kernel_rfl) (fun _ _ _ h => h) (by assumption) ?_ ?_
              rotate_left
              · intro oi ho; cases ho; refine ⟨by rfl, ?_⟩; intro w hSw; (try dsimp only at hSw); go_simp; try with_reducible rfl
              (try simp only [Act.put, List.setIfInBounds_toArray, List.set_cons_zero, List.set_cons_succ])
              refine man_take 8 76 (v := ?_) ⟨_, rfl, rfl⟩ (by kernel_rfl) (by kernel_rfl) (by kernel_rfl) (fun _ _ _ h => h) (by assumption) ?_ ?_
              rotate_left
              · intro oi ho; cases ho; refine ⟨by rfl, ?_⟩; intro w hSw; (try dsimp only at hSw); go_simp; try with_reducible rfl
              (try simp only [Act.put, List.setIfInBounds_toArray, List.set_cons_zero, List.set_cons_succ])
              refine man_take 9 77 (v := ?_) ⟨_, rfl, rfl⟩ (by kernel_rfl) (by kernel_rfl) (by kernel_rfl) (fun _ _ _ h => h) (by assumption) ?_ ?_
              rotate_left
              · intro oi ho; cases ho; refine ⟨by rfl, ?_⟩; intro w hSw; (try dsimp only at hSw); go_simp; try with_reducible rfl
              (try simp only [Act.put, List.setIfInBounds_toArray, List.set_cons_zero, List.set_cons_succ])
              refine man_skip 10 78 ⟨_, rfl, rfl⟩ (by kernel_rfl) (by kernel_rfl) (by kernel_rfl) (fun _ _ _ h => h) (by assumption) ?_ ?_
              · intro oi ho; cases ho; rfl
              (try simp only [Act.put, List.setIfInBounds_toArray, List.set_cons_zero, List.set_cons_succ])
              refine man_skip 11 79 ⟨_, rfl, rfl⟩ (by kernel_rfl) (by kernel_rfl) (by kernel_rfl) (fun _ _ _ h => h) (by assumption) ?_ ?_
              · intro oi ho; cases ho; rfl
              (try simp only [Act.put, List.setIfInBounds_toArray, List.set_cons_zero, List.set_cons_succ])
              refine man_skip 12 80 ⟨_, rfl, rfl⟩ (by kernel_rfl) (by kernel_rfl) (by kernel_rfl) (fun _ _ _ h => h) (by assumption) ?_ ?_
              · intro oi ho; cases ho; rfl
              (try simp only [Act.put, List.setIfInBounds_toArray, List.set_cons_zero, List.set_cons_succ])
              refine man_skip 13 81 ⟨_, rfl, rfl⟩ (by kernel_rfl) (by kernel_rfl) (by kernel_rfl) (fun _ _ _ h => h) (by assumption) ?_ ?_
              · intro oi ho; cases ho; rfl
              (try simp only [Act.put, List.setIfInBounds_toArray, List.set_cons_zero, List.set_cons_succ])
              refine man_skip 14 82 ⟨_, rfl, rfl⟩ (by kernel_rfl) (by kernel_rfl) (by kernel_rfl) (fun _ _ _ h => h) (by assumption) ?_ ?_
              · intro oi ho; cases ho; rfl
              (try simp only [Act.put, List.setIfInBounds_toArray, List.set_cons_zero, List.set_cons_succ])
              refine man_skip 15 83 ⟨_, rfl, rfl⟩ (by kernel_rfl) (by kernel_rfl) (by kernel_rfl) (fun _ _ _ h => h) (by assumption) ?_ ?_
              · intro oi ho; cases ho; rfl
              (try simp only [Act.put, List.setIfInBounds_toArray, List.set_cons_zero, List.set_cons_succ])
              refine man_take 16 84 (v := ?_) ⟨_, rfl, rfl⟩ (by kernel_rfl) (by kernel_rfl) (by kernel_rfl) (fun _ _ _ h => h) (by assumption) ?_ ?_
              rotate_left
              · intro oi ho; cases ho; refine ⟨by rfl, ?_⟩; intro w hSw; (try dsimp only at hSw); go_simp; try with_reducible rfl
              (try simp only [Act.put, List.setIfInBounds_toArray, List.set_cons_zero, List.set_cons_succ])
              refine man_run 17 rfl (by kernel_rfl) (fun K hK => ?_)
              go_simp
              refine (set_any a b x y w.heap.size r2 k2 l2 b false _ ha hb hltx hlty HZ.o2).mono ?_
              rintro e wc ⟨rfl, hown6, hgr6⟩
              have hI6 := hI.grown hgr6 (own_blk_ne HZ.o2 hI (by decide))
              have hR16 := hR1.grown hgr6 (own_blk_ne HZ.o2 hR1 (by decide))
              have hR26 := hR2.grown hgr6 (own_blk_ne HZ.o2 hR2 (by decide))
              have hbel6 := hbel.grown hgr6 hbel.size (fun k hk => (HZ.o2.lt k hk).1)
              have HZ6 := HZ.snd hown6 hgr6
              clear HZ hI hR1 hR2 hbel hown6 hgr6
              have HZ := HZ6
              have hI := hI6
              have hR1 := hR16
              have hR2 := hR26
              have hbel := hbel6
              clear HZ6 hI6 hR16 hR26 hbel6
              go_wp2_with fail
              refine hK.out _ _ ?_ (fun hHeld => ?_)
              · (try dsimp only); exact ⟨HZ.b2.cell3, HP.out _ hbel, HQ.out _ hbel⟩
              clear hK K
              (try simp only [Act.put, List.setIfInBounds_toArray, List.set_cons_zero, List.set_cons_succ])
              refine wpAnyH_done (by kernel_rfl) ?_ _
              go_wp2_with fail
              go_roundw
              case rel => exact ⟨y + 1, _, _, by omega, by go_num, HF1.out _ HU.out.symm, HF2.out _ HO.out.symm, HZ, hI, hR1, hR2, hbel⟩
              case measure => simp [intOf]; omega
          · have hyb : y = b := by omega
            subst hyb
            go_wp2_with fail
            go_roundw
            case rel => exact ⟨x + 1, l1, l2, by omega, by go_num, hf1.col, hf2.col, HZ, hI, hR1, hR2, hbel⟩
            case measure => simp [intOf]; omega
      · have hxa : x = a := by omega
        subst hxa
        have HT1 := Lib.hid hf1.tab_
        have HT2 := Lib.hid hf2.tab_
        clear hf1 hf2
        go_wp2_with fail
        have hne : ∀ g, wr.cell? ⟨g, 0, none⟩ = some (.int .i64 (x : Int)) → g ≠ w.heap.size + 1 ∧ g ≠ w.heap.size + 1 + 1 := fun g hg => ⟨fun e => by rw [e, hR1.cell3.1] at hg; injection hg with h; injection h with _ h; omega, fun e => by rw [e, hR2.cell3.1] at hg; injection hg with h; injection h with _ h; omega⟩
        obtain ⟨n11, n12⟩ := hne g1 HZ.b1.cell3.1
        obtain ⟨n21, n22⟩ := hne g2 HZ.b2.cell3.1
        clear hne c0 c1 c2
        replace HZ := HZ.drew
        replace hI := hI.drew
        replace hR1 := hR1.drew
        replace hR2 := hR2.drew
        replace hbel := hbel.drew
        have HB1 := HZ.b1
        have HB2 := HZ.b2
        have E1 := (hR1.set3 (.int .i64 x) (.int .i64 b) (.slice (some ⟨r1, 0, none⟩) (b * x) k1)).farT (show w.heap.size + 1 ≠ w.heap.size + 1 + 1 by omega) (.int .i64 x) (.int .i64 b) (.slice (some ⟨r2, 0, none⟩) (b * x) k2)
        have M2 := hR2.farT (show w.heap.size + 1 + 1 ≠ w.heap.size + 1 by omega) (.int .i64 x) (.int .i64 b) (.slice (some ⟨r1, 0, none⟩) (b * x) k1)
        have E2 := M2.set3 (.int .i64 x) (.int .i64 b) (.slice (some ⟨r2, 0, none⟩) (b * x) k2)
        have O1 := own_set3 (own_set3 HZ.o1 hR1 (by decide) (.int .i64 x) (.int .i64 b) (.slice (some ⟨r1, 0, none⟩) (b * x) k1)) M2 (by decide) (.int .i64 x) (.int .i64 b) (.slice (some ⟨r2, 0, none⟩) (b * x) k2)
        have O2 := own_set3 (own_set3 HZ.o2 hR1 (by decide) (.int .i64 x) (.int .i64 b) (.slice (some ⟨r1, 0, none⟩) (b * x) k1)) M2 (by decide) (.int .i64 x) (.int .i64 b) (.slice (some ⟨r2, 0, none⟩) (b * x) k2)
        have BB := below_set3 (below_set3 hbel (show w.heap.size ≤ w.heap.size + 1 by omega) (.int .i64 x) (.int .i64 b) (.slice (some ⟨r1, 0, none⟩) (b * x) k1)) (show w.heap.size ≤ w.heap.size + 1 + 1 by omega) (.int .i64 x) (.int .i64 b) (.slice (some ⟨r2, 0, none⟩) (b * x) k2)
        obtain ⟨rr0, rr1, rr2⟩ := hR1.cell3
        obtain ⟨f0, f1, f2⟩ := hR1.frozen3
        obtain ⟨ss0, ss1, ss2⟩ := hR2.cell3
        obtain ⟨q0, q1, q2⟩ := hR2.frozen3
        obtain ⟨x0, x1, x2⟩ := E1.cell3
        obtain ⟨y0, y1, y2⟩ := E2.cell3
        refine wp_region_held_drew (S := (fun w' => (w'.cell? ⟨g1, 0, none⟩ = some (.int .i64 x) ∧ w'.cell? ⟨g1, 1, none⟩ = some (.int .i64 b) ∧ w'.cell? ⟨g1, 2, none⟩ = some (.slice (some ⟨r1, 0, none⟩) (b * x) k1)) ∧ w'.cell? ⟨g2, 0, none⟩ = some (.int .i64 x) ∧ w'.cell? ⟨g2, 1, none⟩ = some (.int .i64 b) ∧ w'.cell? ⟨g2, 2, none⟩ = some (.slice (some ⟨r2, 0, none⟩) (b * x) k2))) (by kernel_rfl) ?_ (fun hHeld => ?_)
        · (try dsimp only); exact ⟨HB1.cell3, HB2.cell3⟩
        generalize wr.drew = wd at *
        refine man_take 0 86 (v := ?_) ⟨_, rfl, rfl⟩ (by kernel_rfl) (by kernel_rfl) (by kernel_rfl) (fun _ _ _ h => h) (by assumption) ?_ ?_
        rotate_left
        · intro oi ho; cases ho; refine ⟨by rfl, ?_⟩; intro w hSw; (try dsimp only at hSw); go_simp; try with_reducible rfl
        (try simp only [Act.put, List.setIfInBounds_toArray, List.set_cons_zero, List.set_cons_succ])
        refine man_take 1 87 (v := ?_) ⟨_, rfl, rfl⟩ (by kernel_rfl) (by kernel_rfl) (by kernel_rfl) (fun _ _ _ h => h) (by assumption) ?_ ?_
        rotate_left
        · intro oi ho; cases ho; refine ⟨by rfl, ?_⟩; intro w hSw; (try dsimp only at hSw); go_simp; try with_reducible rfl
        (try simp only [Act.put, List.setIfInBounds_toArray, List.set_cons_zero, List.set_cons_succ])
        refine man_run 2 rfl (by kernel_rfl) (fun K hK => ?_)
        go_simp
        replace HB1 := HB1.farT n11 (.int .i64 x) (.int .i64 b) (.slice (some ⟨r1, 0, none⟩) (b * x) k1)
        replace HB2 := HB2.farT n21 (.int .i64 x) (.int .i64 b) (.slice (some ⟨r1, 0, none⟩) (b * x) k1)
        refine hK.out _ _ ?_ (fun hHeld => ?_)
        · (try dsimp only); exact ⟨HB1.cell3, HB2.cell3⟩
        clear hK K
        (try simp only [Act.put, List.setIfInBounds_toArray, List.set_cons_zero, List.set_cons_succ])
        refine man_run 3 rfl (by kernel_rfl) (fun K hK => ?_)
        go_simp
        replace HB1 := HB1.farT n12 (.int .i64 x) (.int .i64 b) (.slice (some ⟨r2, 0, none⟩) (b * x) k2)
        replace HB2 := HB2.farT n22 (.int .i64 x) (.int .i64 b) (.slice (some ⟨r2, 0, none⟩) (b * x) k2)
        refine hK.out _ _ ?_ (fun hHeld => ?_)
        · (try dsimp only); exact ⟨HB1.cell3, HB2.cell3⟩
        clear hK K
        (try simp only [Act.put, List.setIfInBounds_toArray, List.set_cons_zero, List.set_cons_succ])
        refine man_take 4 8 (v := ?_) ⟨_, rfl, rfl⟩ (by kernel_rfl) (by kernel_rfl) (by kernel_rfl) (fun _ _ _ h => h) (by assumption) ?_ ?_
        rotate_left
        · intro oi ho; cases ho; refine ⟨by rfl, ?_⟩; intro w hSw; (try dsimp only at hSw); go_simp; try with_reducible rfl
        (try simp only [Act.put, List.setIfInBounds_toArray, List.set_cons_zero, List.set_cons_succ])
        refine wpAnyH_done (by kernel_rfl) ?_ _
        go_wp2_with fail
        refine bodyPost_ret (v := .tuple #[.agg #[.int .i64 x, .int .i64 b, .slice (some ⟨r1, 0, none⟩) (b * x) k1], .agg #[.int .i64 x, .int .i64 b, .slice (some ⟨r2, 0, none⟩) (b * x) k2], .int .i64 0]) (by simp [results, Try.results22, go_sem, x0, x1, x2, y0, y1, y2]) rfl ?_
        rw [HT1.out] at O1
        rw [HT2.out] at O2
        exact ⟨_, _, _, _, _, _, rfl, O1, O2, .inr (.inr (fun e => HZ.ne (Option.some.inj e))), BB⟩

theorem rc_bad {m : Im} {p q : List Int} (h : thrI m p q ≠ 0) : cellsI m p q = ((Gd.zero, Gd.zero), thrI m p q) := if_pos h
theorem rc_ok {a b : Nat} {cs p q : List Int} (h : thrI ⟨a, b, cs⟩ p q = 0) (hf : fitB a b cs p q = true) : cellsI ⟨a, b, cs⟩ p q = ((⟨a, b, Pl.tab a b (upF a cs q)⟩, ⟨a, b, Pl.tab a b (openF a cs p q)⟩), 0) := by
  unfold cellsI
  rw [if_neg (by omega)]
  simp only [Int.toNat_natCast]
  rw [if_pos hf]
theorem rc_none {a b : Nat} {cs p q : List Int} (h : thrI ⟨a, b, cs⟩ p q = 0) (hf : fitB a b cs p q = false) : cellsI ⟨a, b, cs⟩ p q = ((Gd.zero, Gd.zero), 6) := by
  unfold cellsI
  rw [if_neg (by omega)]
  simp only [Int.toNat_natCast]
  rw [if_neg (by rw [hf]; simp)]

set_option linter.unusedSimpArgs false in
set_option linter.unusedVariables false in
set_option maxHeartbeats 4000000 in
set_option maxRecDepth 100000 in
theorem rcells_one (m : Im) (p q : List Int) (A Ap Aq : Option Addr) (n c np cp nq cq : Nat) (w : World) (h0 : thrI m p q ≠ 0)
    (HT : Hid (∀ W : World, Below w.heap.size w W → Calls Try.prog 35 #[.agg #[.int .i64 m.w, .int .i64 m.h, .slice A n c], .slice Ap np cp, .slice Aq nq cq] W fun e w' => e = .returned (.int .i64 (thrI m p q)) ∧ Below W.heap.size W w')) :
    Calls Try.prog 22 #[.agg #[.int .i64 m.w, .int .i64 m.h, .slice A n c], .slice Ap np cp, .slice Aq nq cq] w (RetC (cellsI m p q) w) := by
  have HB := Lib.hid (rc_bad h0)
  have k0 : (thrI m p q != 0) = true := by simpa using h0
  generalize thrI m p q = t at *
  clear h0
  have S0 := (((St.start w).box #[.int .i64 m.w, .int .i64 m.h, .slice A n c] 24).box #[.int .i64 0, .int .i64 0, .slice none 0 0] 40).box #[.int .i64 0, .int .i64 0, .slice none 0 0] 40
  simp only [size_alloc1, List.nil_append, List.cons_append] at S0
  obtain ⟨c0, c1, c2⟩ := (S0.blk 0 rfl).cell3
  go_enter Try.func22, Try.ntmps22
  go_wp2_with fail
  refine (HT.out _ S0.below).mono ?_
  rintro e w1 ⟨rfl, hb1⟩
  have S := S0
  clear S0
  have S := S.keep hb1
  clear c0 c1 c2
  obtain ⟨c0, c1, c2⟩ := (S.blk 0 rfl).cell3
  go_wp2_with fail
  refine (HT.out _ S.below).mono ?_
  rintro e w2 ⟨rfl, hb2⟩
  replace S := S.keep hb2
  clear c0 c1 c2
  obtain ⟨r0, r1, r2⟩ := (S.blk 1 rfl).cell3
  obtain ⟨f0, f1, f2⟩ := (S.blk 1 rfl).frozen3
  obtain ⟨s0, s1, s2⟩ := (S.blk 2 rfl).cell3
  obtain ⟨g0, g1, g2⟩ := (S.blk 2 rfl).frozen3
  have E1 := ((S.blk 1 rfl).set3 (.int .i64 0) (.int .i64 0) (.slice none 0 0)).farT (show w.heap.size + 1 ≠ w.heap.size + 1 + 1 by omega) (.int .i64 0) (.int .i64 0) (.slice none 0 0)
  have E2 := ((S.blk 2 rfl).farT (show w.heap.size + 1 + 1 ≠ w.heap.size + 1 by omega) (.int .i64 0) (.int .i64 0) (.slice none 0 0)).set3 (.int .i64 0) (.int .i64 0) (.slice none 0 0)
  have BB := below_set3 (below_set3 S.below (show w.heap.size ≤ w.heap.size + 1 by omega) (.int .i64 0) (.int .i64 0) (.slice none 0 0)) (show w.heap.size ≤ w.heap.size + 1 + 1 by omega) (.int .i64 0) (.int .i64 0) (.slice none 0 0)
  obtain ⟨x0, x1, x2⟩ := E1.cell3
  obtain ⟨y0, y1, y2⟩ := E2.cell3
  go_wp2_with fail
  refine bodyPost_ret (v := .tuple #[.agg #[.int .i64 0, .int .i64 0, .slice none 0 0], .agg #[.int .i64 0, .int .i64 0, .slice none 0 0], .int .i64 t]) (by simp [results, Try.results22, go_sem, x0, x1, x2, y0, y1, y2]) rfl ?_
  rw [HB.out]
  exact ⟨none, 0, 0, none, 0, 0, rfl, World.ownsRow_nil _ _ _ _, World.ownsRow_nil _ _ _ _, .inl rfl, BB⟩

set_option linter.unusedSimpArgs false in
set_option linter.unusedVariables false in
set_option maxHeartbeats 4000000 in
set_option maxRecDepth 100000 in
theorem rcells_two (a b : Nat) (cs p q : List Int) (A Ap Aq : Option Addr) (n c np cp nq cq : Nat) (w : World) (h0 : thrI ⟨a, b, cs⟩ p q = 0) (hf : fitB a b cs p q = false)
    (HT : Hid (∀ W : World, Below w.heap.size w W → Calls Try.prog 35 #[.agg #[.int .i64 a, .int .i64 b, .slice A n c], .slice Ap np cp, .slice Aq nq cq] W fun e w' => e = .returned (.int .i64 0) ∧ Below W.heap.size W w'))
    (HFI : Hid (∀ W : World, Below w.heap.size w W → Calls Try.prog 36 #[.agg #[.int .i64 a, .int .i64 b, .slice A n c], .slice Ap np cp, .slice Aq nq cq] W fun e w' => e = .returned (.bool false) ∧ Below W.heap.size W w')) :
    Calls Try.prog 22 #[.agg #[.int .i64 a, .int .i64 b, .slice A n c], .slice Ap np cp, .slice Aq nq cq] w (RetC (cellsI ⟨a, b, cs⟩ p q) w) := by
  have HB := Lib.hid (rc_none h0 hf)
  clear h0 hf
  have S0 := (((St.start w).box #[.int .i64 a, .int .i64 b, .slice A n c] 24).box #[.int .i64 0, .int .i64 0, .slice none 0 0] 40).box #[.int .i64 0, .int .i64 0, .slice none 0 0] 40
  simp only [size_alloc1, List.nil_append, List.cons_append] at S0
  obtain ⟨c0, c1, c2⟩ := (S0.blk 0 rfl).cell3
  go_enter Try.func22, Try.ntmps22
  go_wp2_with fail
  refine (HT.out _ S0.below).mono ?_
  rintro e w1 ⟨rfl, hb1⟩
  have S := S0
  clear S0
  have S := S.keep hb1
  clear c0 c1 c2
  obtain ⟨c0, c1, c2⟩ := (S.blk 0 rfl).cell3
  go_wp2_with fail
  refine (HFI.out _ S.below).mono ?_
  rintro e w2 ⟨rfl, hb2⟩
  replace S := S.keep hb2
  clear c0 c1 c2
  obtain ⟨r0, r1, r2⟩ := (S.blk 1 rfl).cell3
  obtain ⟨f0, f1, f2⟩ := (S.blk 1 rfl).frozen3
  obtain ⟨s0, s1, s2⟩ := (S.blk 2 rfl).cell3
  obtain ⟨g0, g1, g2⟩ := (S.blk 2 rfl).frozen3
  have E1 := ((S.blk 1 rfl).set3 (.int .i64 0) (.int .i64 0) (.slice none 0 0)).farT (show w.heap.size + 1 ≠ w.heap.size + 1 + 1 by omega) (.int .i64 0) (.int .i64 0) (.slice none 0 0)
  have E2 := ((S.blk 2 rfl).farT (show w.heap.size + 1 + 1 ≠ w.heap.size + 1 by omega) (.int .i64 0) (.int .i64 0) (.slice none 0 0)).set3 (.int .i64 0) (.int .i64 0) (.slice none 0 0)
  have BB := below_set3 (below_set3 S.below (show w.heap.size ≤ w.heap.size + 1 by omega) (.int .i64 0) (.int .i64 0) (.slice none 0 0)) (show w.heap.size ≤ w.heap.size + 1 + 1 by omega) (.int .i64 0) (.int .i64 0) (.slice none 0 0)
  obtain ⟨x0, x1, x2⟩ := E1.cell3
  obtain ⟨y0, y1, y2⟩ := E2.cell3
  go_wp2_with fail
  refine bodyPost_ret (v := .tuple #[.agg #[.int .i64 0, .int .i64 0, .slice none 0 0], .agg #[.int .i64 0, .int .i64 0, .slice none 0 0], .int .i64 6]) (by simp [results, Try.results22, go_sem, x0, x1, x2, y0, y1, y2]) rfl ?_
  rw [HB.out]
  exact ⟨none, 0, 0, none, 0, 0, rfl, World.ownsRow_nil _ _ _ _, World.ownsRow_nil _ _ _ _, .inl rfl, BB⟩

theorem rcells_any (m : Im) (p q : List Int) (A Ap Aq : Option Addr) (n c np cp nq cq : Nat) (w : World) (hr : Rd w A n (m.c.map (Value.int .i64))) (hn : n ≤ 1048576) (hrp : Rd w Ap np (p.map (Value.int .i64))) (hrq : Rd w Aq nq (q.map (Value.int .i64))) :
    Calls Try.prog 22 #[.agg #[.int .i64 m.w, .int .i64 m.h, .slice A n c], .slice Ap np cp, .slice Aq nq cq] w (RetC (cellsI m p q) w) := by
  have HT := fun (W : World) (h : Below w.heap.size w W) => rthrI_any m p q A Ap Aq n c np cp nq cq W (hr.below h) hn (hrp.below h) (hrq.below h)
  by_cases h0 : thrI m p q = 0
  · obtain ⟨a, b, cs, rfl, ha1, ha, hb1, hb, hl, hlp, hlq, _, _, _⟩ := thrI_open h0
    simp only at hr HT
    have e1 : n = b * a := by rw [← hl]; simpa using hr.len.symm
    have e2 : np = a := by rw [← hlp]; simpa using hrp.len.symm
    have e3 : nq = b := by rw [← hlq]; simpa using hrq.len.symm
    subst e1 e2 e3
    rw [h0] at HT
    have HFI := fun (W : World) (h : Below w.heap.size w W) => fits_any np nq cs p q A Ap Aq c cp cq W ha1 ha hb1 hb (hr.below h) (hrp.below h) (hrq.below h)
    cases hf : fitB np nq cs p q with
    | true =>
      rw [hf] at HFI
      rw [rc_ok h0 hf]
      exact rcells_pair np nq cs p q A Ap Aq c cp cq w ha1 ha hb1 hb hr hrp hrq (Lib.hid HT) (Lib.hid HFI)
    | false =>
      rw [hf] at HFI
      exact rcells_two np nq cs p q A Ap Aq _ c _ cp _ cq w h0 hf (Lib.hid HT) (Lib.hid HFI)
  · exact rcells_one m p q A Ap Aq n c np cp nq cq w h0 (Lib.hid HT)
end Go.Proofs.Ytefeghpglacghaa
