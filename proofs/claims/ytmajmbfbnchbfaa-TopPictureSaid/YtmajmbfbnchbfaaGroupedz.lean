/- raddletop.grouped: a shaft for each number of a grouping, a treadle for each pick. -/
import Derived.Test.YtmajmbfbnchbfaaGrpPz
import Derived.Test.YtmajmbfbnchbfaaMg6z
import Derived.Test.YtmajmbfbnchbfaaMg9z
import Derived.Test.YtmajmbfbnchbfaaMg3z
namespace Go.Proofs.Ytmajmbfbnchbfaa
open Go.RowKit

set_option linter.unusedVariables false in
set_option maxHeartbeats 16000000 in
set_option maxRecDepth 100000 in
theorem grouped_any (a h bA oA c b o cl : Nat) (gb : List Bool) (l : List Int) (w : World) (ha1 : 1 ≤ a) (ha : a ≤ 8) (hh1 : 1 ≤ h) (hh : h ≤ 40) (hgl : gb.length = h * a) (hr : Rd w (some ⟨bA, oA, none⟩) (h * a) (gb.map Value.bool))
    (hll : l.length = a) (hrl : Rd w (some ⟨b, o, none⟩) a (l.map (Value.int .i64))) (hx : ∀ x ∈ l, 0 ≤ x ∧ x < a)
    (hg : ∀ x x' y, x < a → x' < a → y < h → (l.getD x 0).toNat = (l.getD x' 0).toNat → gb.getD (y * a + x) false = gb.getD (y * a + x') false) :
    Calls Try.prog 38 #[.agg #[.int .i64 a, .int .i64 h, .slice (some ⟨bA, oA, none⟩) (h * a) c], .slice (some ⟨b, o, none⟩) a cl] w fun e w' => ∃ (br cr gt ct : Nat) (tb : List Bool),
      e = .returned (.agg (dC a h (.slice (some ⟨b, o, none⟩) a cl) (.slice (some ⟨br, 0, none⟩) h cr) gt 0 ct)) ∧ TieOk a h gb l h 0 tb ∧ Rd w' (some ⟨br, 0, none⟩) h ((rngI h).map (Value.int .i64)) ∧ Rd w' (some ⟨gt, 0, none⟩) (a * h) (tb.map Value.bool) ∧ Below w.heap.size w w' := by
  obtain ⟨i0, hi, hz0, hz1, hz2⟩ := info_parts Try.infoI
  have S0 := ((St.start w).box #[.int .i64 a, .int .i64 h, .slice (some ⟨bA, oA, none⟩) (h * a) c] 25).box #[.int .i64 0, .int .i64 0, .slice none 0 0, .slice none 0 0, .int .i64 0, .int .i64 0, .slice none 0 0] 27
  simp only [size_alloc1, List.nil_append, List.cons_append] at S0
  have hah : 1 ≤ a * h := Nat.mul_pos (by omega) (by omega)
  have HZ := Lib.hid (show ∀ u, Calls Try.prog 52 #[.int .i64 h, .int .i64 a] u (fun e w' => ∃ g ct, e = .returned (.agg #[.int .i64 h, .int .i64 a, .slice (some ⟨g, 0, none⟩) (a * h) ct]) ∧ w'.ownsRow u.heap.size 4 1 (.slice (some ⟨g, 0, none⟩) (a * h) ct) (a * h) ((List.replicate (a * h) false).map Value.bool) ∧ Below u.heap.size u w') from fun u =>
    (zero_any h a u (by omega) (by omega)).mono fun e w' ⟨A', n', c', h1, h2, h3⟩ => by
      obtain rfl : n' = a * h := by have := h2.1; simpa using this.symm
      obtain ⟨g, rfl⟩ := own_addr h2 hah
      exact ⟨g, c', h1, h2, h3⟩)
  have HX := Lib.hid (fun i (hi : i < a) => hx (l.getD i 0) (by rw [List.getD_eq_getElem?_getD, List.getElem?_eq_getElem (by omega)]; exact List.getElem_mem _))
  have HRD := Lib.hid (fun u (hu : Below w.heap.size w u) => hr.below hu)
  have HLD := Lib.hid (fun u (hu : Below w.heap.size w u) i (hi : i < a) => int_cell (hrl.below hu) hi)
  have HAT := Lib.hid (fun u (hu : Below w.heap.size w u) x y (hx : x < a) (hy : y < h) => at_any a h x y gb h (some ⟨bA, oA, none⟩) c u (by omega) (by omega) hx hy (hr.below hu))
  have HTS := Lib.hid (fun x y tb (H : TieOk a h gb l y x tb) (hx : x < a) (hy : y < h) => H.set hx hy (fun x hx => by have := HX.out x hx; omega) hg)
  obtain ⟨c0, c1, c2⟩ := (S0.blk 0 rfl).cell3
  clear hr hrl hx hg
  go_enter Try.func38, Try.ntmps38
  go_wp2_with fail
  have hsz : ((w.alloc (.cells #[.int .i64 a, .int .i64 h, .slice (some ⟨bA, oA, none⟩) (h * a) c] 25)).alloc (.cells #[.int .i64 0, .int .i64 0, .slice none 0 0, .slice none 0 0, .int .i64 0, .int .i64 0, .slice none 0 0] 27)).heap.size = w.heap.size + 2 := by simp
  generalize (w.alloc (.cells #[.int .i64 a, .int .i64 h, .slice (some ⟨bA, oA, none⟩) (h * a) c] 25)).alloc (.cells #[.int .i64 0, .int .i64 0, .slice none 0 0, .slice none 0 0, .int .i64 0, .int .i64 0, .slice none 0 0] 27) = u0 at *
  obtain ⟨d0, d1, d2⟩ := ((S0.blk 0 rfl).alloc (.cells #[.int .i64 0, .int .i64 0, .slice none 0 0, .slice none 0 0, .int .i64 0, .int .i64 0, .slice none 0 0] 27)).cell3
  have Z0 := Blk.new u0.drew 27 #[.int .i64 0, .int .i64 0, .slice none 0 0, .slice none 0 0, .int .i64 0, .int .i64 0, .slice none 0 0]
  rw [show u0.drew.heap.size = w.heap.size + 2 from hsz] at Z0
  have S1 := S0.drew
  have S1a := S0.drew.keep ((Below.refl _ _).alloc (Nat.le_refl _) (.cells #[.int .i64 0, .int .i64 0, .slice none 0 0, .slice none 0 0, .int .i64 0, .int .i64 0, .slice none 0 0] 27))
  have kA := Lib.hid (S1.blk 0 rfl).cell3
  have kB := Lib.hid (S1a.blk 0 rfl).cell3
  refine wp_region_held_drew (S := (fun u : World => u.cell? ⟨w.heap.size, 0, none⟩ = some (.int .i64 a) ∧ u.cell? ⟨w.heap.size, 1, none⟩ = some (.int .i64 h) ∧ u.cell? ⟨w.heap.size, 2, none⟩ = some (.slice (some ⟨bA, oA, none⟩) (h * a) c))) (by kernel_rfl) ?_ (fun hHeld => ?_)
  · (try dsimp only); first | with_reducible exact kA.out | with_reducible exact kB.out | with_reducible exact kC.out | with_reducible exact kD.out | with_reducible exact kE.out | exact kB.out
  refine man_take 0 8 (v := ?_) ⟨_, rfl, rfl⟩ (by as_aux_lemma => kernel_rfl) (by as_aux_lemma => kernel_rfl) (by as_aux_lemma => kernel_rfl) (fun _ _ _ h => h) (by assumption) ?_ ?_
  rotate_left
  · intro oi ho; cases ho; refine ⟨by rfl, ?_⟩; intro w hSw; (try dsimp only at hSw); go_simp; try with_reducible rfl
  (try simp only [Act.put, List.setIfInBounds_toArray, List.set_cons_zero, List.set_cons_succ])
  refine man_take 1 9 (v := ?_) ⟨_, rfl, rfl⟩ (by as_aux_lemma => kernel_rfl) (by as_aux_lemma => kernel_rfl) (by as_aux_lemma => kernel_rfl) (fun _ _ _ h => h) (by assumption) ?_ ?_
  rotate_left
  · intro oi ho; cases ho; refine ⟨by rfl, ?_⟩; intro w hSw; (try dsimp only at hSw); go_simp; try with_reducible rfl
  (try simp only [Act.put, List.setIfInBounds_toArray, List.set_cons_zero, List.set_cons_succ])
  refine man_take 2 10 (v := ?_) ⟨_, rfl, rfl⟩ (by as_aux_lemma => kernel_rfl) (by as_aux_lemma => kernel_rfl) (by as_aux_lemma => kernel_rfl) (fun _ _ _ h => h) (by assumption) ?_ ?_
  rotate_left
  · intro oi ho; cases ho; refine ⟨by rfl, ?_⟩; intro w hSw; (try dsimp only at hSw); go_simp; try with_reducible rfl
  (try simp only [Act.put, List.setIfInBounds_toArray, List.set_cons_zero, List.set_cons_succ])
  refine man_take 3 11 (v := ?_) ⟨_, rfl, rfl⟩ (by as_aux_lemma => kernel_rfl) (by as_aux_lemma => kernel_rfl) (by as_aux_lemma => kernel_rfl) (fun _ _ _ h => h) (by assumption) ?_ ?_
  rotate_left
  · intro oi ho; cases ho; refine ⟨by rfl, ?_⟩; intro w hSw; (try dsimp only at hSw); go_simp; try with_reducible rfl
  (try simp only [Act.put, List.setIfInBounds_toArray, List.set_cons_zero, List.set_cons_succ])
  refine man_take 4 12 (v := ?_) ⟨_, rfl, rfl⟩ (by as_aux_lemma => kernel_rfl) (by as_aux_lemma => kernel_rfl) (by as_aux_lemma => kernel_rfl) (fun _ _ _ h => h) (by assumption) ?_ ?_
  rotate_left
  · intro oi ho; cases ho; refine ⟨by rfl, ?_⟩; intro w hSw; (try dsimp only at hSw); go_simp; try with_reducible rfl
  (try simp only [Act.put, List.setIfInBounds_toArray, List.set_cons_zero, List.set_cons_succ])
  refine man_take 5 13 (v := ?_) ⟨_, rfl, rfl⟩ (by as_aux_lemma => kernel_rfl) (by as_aux_lemma => kernel_rfl) (by as_aux_lemma => kernel_rfl) (fun _ _ _ h => h) (by assumption) ?_ ?_
  rotate_left
  · intro oi ho; cases ho; refine ⟨by rfl, ?_⟩; intro w hSw; (try dsimp only at hSw); go_simp; try with_reducible rfl
  (try simp only [Act.put, List.setIfInBounds_toArray, List.set_cons_zero, List.set_cons_succ])
  refine man_take 6 14 (v := ?_) ⟨_, rfl, rfl⟩ (by as_aux_lemma => kernel_rfl) (by as_aux_lemma => kernel_rfl) (by as_aux_lemma => kernel_rfl) (fun _ _ _ h => h) (by assumption) ?_ ?_
  rotate_left
  · intro oi ho; cases ho; refine ⟨by rfl, ?_⟩; intro w hSw; (try dsimp only at hSw); go_simp; try with_reducible rfl
  (try simp only [Act.put, List.setIfInBounds_toArray, List.set_cons_zero, List.set_cons_succ])
  refine man_take 7 15 (v := ?_) ⟨_, rfl, rfl⟩ (by as_aux_lemma => kernel_rfl) (by as_aux_lemma => kernel_rfl) (by as_aux_lemma => kernel_rfl) (fun _ _ _ h => h) (by assumption) ?_ ?_
  rotate_left
  · intro oi ho; cases ho; refine ⟨by rfl, ?_⟩; intro w hSw; (try dsimp only at hSw); go_simp; try with_reducible rfl
  (try simp only [Act.put, List.setIfInBounds_toArray, List.set_cons_zero, List.set_cons_succ])
  refine man_take 8 16 (v := ?_) ⟨_, rfl, rfl⟩ (by as_aux_lemma => kernel_rfl) (by as_aux_lemma => kernel_rfl) (by as_aux_lemma => kernel_rfl) (fun _ _ _ h => h) (by assumption) ?_ ?_
  rotate_left
  · intro oi ho; cases ho; refine ⟨by rfl, ?_⟩; intro w hSw; (try dsimp only at hSw); go_simp; try with_reducible rfl
  (try simp only [Act.put, List.setIfInBounds_toArray, List.set_cons_zero, List.set_cons_succ])
  refine man_two 9 11 rfl rfl (by as_aux_lemma => kernel_rfl) (fun K hK => ?_) (fun K hK => ?_)
  · go_simp
    go_at_call 52
    refine (HZ.out _).mono ?_
    rintro e wz ⟨gt, ct, rfl, hownz, hbz⟩
    have S2 := S1.keep hbz
    have kC := Lib.hid (S2.blk 0 rfl).cell3
    have kD := Lib.hid ((S2.blk 0 rfl).alloc (.cells #[.int .i64 a, .int .i64 h, .slice (some ⟨b, o, none⟩) a cl, .slice none 0 0, .int .i64 h, .int .i64 a, .slice (some ⟨gt, 0, none⟩) (a * h) ct] 27)).cell3
    have kE := Lib.hid ((S2.blk 0 rfl).alloc (.cells #[.int .i64 0, .int .i64 0, .slice none 0 0, .slice none 0 0, .int .i64 0, .int .i64 0, .slice none 0 0] 27)).cell3
    have G := Lib.hid (GS.start1 (b := b) (o := o) (cl := cl) S2 S1.size hownz)
    refine hK.out _ _ ?_ (fun hHeld => ?_)
    · (try dsimp only); first | with_reducible exact kA.out | with_reducible exact kB.out | with_reducible exact kC.out | with_reducible exact kD.out | with_reducible exact kE.out | exact kB.out
    clear hK K
    (try simp only [Act.put, List.setIfInBounds_toArray, List.set_cons_zero, List.set_cons_succ])
    refine man_take 10 18 (v := ?_) ⟨_, rfl, rfl⟩ (by as_aux_lemma => kernel_rfl) (by as_aux_lemma => kernel_rfl) (by as_aux_lemma => kernel_rfl) (fun _ _ _ h => h) (by assumption) ?_ ?_
    rotate_left
    · intro oi ho; cases ho; refine ⟨by rfl, ?_⟩; intro w hSw; (try dsimp only at hSw); go_simp; try with_reducible rfl
    (try simp only [Act.put, List.setIfInBounds_toArray, List.set_cons_zero, List.set_cons_succ])
    refine man_run 11 rfl (by as_aux_lemma => kernel_rfl) (fun K hK => ?_)
    go_simp
    refine hK.out _ _ ?_ (fun hHeld => ?_)
    · (try dsimp only); first | with_reducible exact kA.out | with_reducible exact kB.out | with_reducible exact kC.out | with_reducible exact kD.out | with_reducible exact kE.out | exact kB.out
    clear hK K
    (try simp only [Act.put, List.setIfInBounds_toArray, List.set_cons_zero, List.set_cons_succ])
    refine man_run 12 rfl (by as_aux_lemma => kernel_rfl) (fun K hK => ?_)
    go_simp
    refine hK.out _ _ ?_ (fun hHeld => ?_)
    · (try dsimp only); first | with_reducible exact kA.out | with_reducible exact kB.out | with_reducible exact kC.out | with_reducible exact kD.out | with_reducible exact kE.out | exact kB.out
    clear hK K
    refine wpAnyH_done (by kernel_rfl) ?_ _
    clear S1 S1a S2 kA kB kC kD hownz hbz Z0
    go_wp2_with fail
    go_loopw [6] (fun i wr => ∃ (y : Nat) (vr : Value) (tb : List Bool), y ≤ h ∧ i = .int .i64 y ∧ TieOk a h gb l y 0 tb ∧ GS w wz.heap.size a h bA oA c b o cl gt ct vr y tb wr) (fun i _ => h - (intOf i).toNat)
    case atStart => exact ⟨0, _, _, Nat.zero_le _, rfl, TieOk.start a h gb l, G.out⟩
    case round =>
      clear G
      obtain ⟨y, vr, tb, hy, rfl, hT, G⟩ := hrel
      obtain ⟨Ar, cr, rfl⟩ := own_slice G.otr
      have D := G.d
      unfold dC at D
      obtain ⟨d0, d1, d2, d3, d4, d5, d6⟩ := D.cell7
      obtain ⟨c0, c1, c2⟩ := G.g0.cell3
      by_cases hlt : y < h
      · have hsm : y + 1 ≤ 1048576 := by omega
        go_wp2_with (at_builtin; go_loud (refine wpList_app _ rfl (.tmp 26) (.tmp 28) 22 rfl w.heap.size 3 i0 (.int .i64 0) 8 Try.underlying22 hi hz0 hz1 hz2 rfl (by decide) (.slice Ar y cr) y _ rfl (G.otr.alloc _) wr.heap.size (.int .i64 y) rfl (new_cell wr _ _) rfl hsm (size_alloc_le G.bel.size _) ?_))
        intro g' cp' w9 hown9 hgr9
        have hd9 := (D.alloc _).grown hgr9 (own_blk_ne (G.otr.alloc _) (D.alloc (.cells #[.int .i64 y] 3)) (by decide))
        have k3 := hd9.cell 3
        have l3 := hd9.frozen 3
        simp only [List.getElem?_toArray, List.getElem?_cons_zero, List.getElem?_cons_succ] at k3
        have G9 := Lib.hid (G.app _ hown9 hgr9)
        clear c0 c1 c2 d0 d1 d2 d3 d4 d5 d6 D G hd9 hown9 hgr9
        go_wp2_with fail
        go_loopw [7] (fun i wq => ∃ (x : Nat) (tb : List Bool), x ≤ a ∧ i = .int .i64 x ∧ TieOk a h gb l y x tb ∧ GS w wz.heap.size a h bA oA c b o cl gt ct (.slice (some ⟨g', 0, none⟩) (y + 1) cp') (y + 1) tb wq) (fun i _ => a - (intOf i).toNat)
        case atStart => exact ⟨0, tb, Nat.zero_le _, rfl, hT, G9.out⟩
        case round =>
          clear G9 hT k3 l3
          obtain ⟨x, tb2, hxa, rfl, hT2, T⟩ := hrel
          obtain ⟨c0, c1, c2⟩ := T.g0.cell3
          by_cases hltx : x < a
          · have hxx := HX.out x hltx
            have hle := HLD.out _ T.bel x hltx
            obtain ⟨n, hnn⟩ : ∃ n : Nat, l.getD x 0 = (n : Int) := ⟨(l.getD x 0).toNat, by omega⟩
            have hn : n < a := by omega
            have HK := Lib.hid (show ∀ (u : World) tb', GS w wz.heap.size a h bA oA c b o cl gt ct (.slice (some ⟨g', 0, none⟩) (y + 1) cp') (y + 1) tb' u → (fun u : World => u.cell? ⟨wz.heap.size, 4, none⟩ = some (.int .i64 h) ∧ u.cell? ⟨wz.heap.size, 5, none⟩ = some (.int .i64 a) ∧ u.cell? ⟨wz.heap.size, 6, none⟩ = some (.slice (some ⟨gt, 0, none⟩) (a * h) ct) ∧ u.cell? ⟨b, o + x, none⟩ = some (.int .i64 (n : Int)) ∧ u.cell? ⟨w.heap.size, 0, none⟩ = some (.int .i64 a) ∧ u.cell? ⟨w.heap.size, 1, none⟩ = some (.int .i64 h) ∧ u.cell? ⟨w.heap.size, 2, none⟩ = some (.slice (some ⟨bA, oA, none⟩) (h * a) c)) u from fun u tb' H => ⟨H.cells.1, H.cells.2.1, H.cells.2.2, (HLD.out u H.bel x hltx).trans (by rw [hnn]), H.g0.cell3⟩)
            have kA := Lib.hid (HK.out _ _ (T.keep (below_dr wr)))
            go_wp2_with fail
            clear c0 c1 c2 hle hxx
            refine wp_region_held_drew (S := (fun u : World => u.cell? ⟨wz.heap.size, 4, none⟩ = some (.int .i64 h) ∧ u.cell? ⟨wz.heap.size, 5, none⟩ = some (.int .i64 a) ∧ u.cell? ⟨wz.heap.size, 6, none⟩ = some (.slice (some ⟨gt, 0, none⟩) (a * h) ct) ∧ u.cell? ⟨b, o + x, none⟩ = some (.int .i64 (n : Int)) ∧ u.cell? ⟨w.heap.size, 0, none⟩ = some (.int .i64 a) ∧ u.cell? ⟨w.heap.size, 1, none⟩ = some (.int .i64 h) ∧ u.cell? ⟨w.heap.size, 2, none⟩ = some (.slice (some ⟨bA, oA, none⟩) (h * a) c))) (by kernel_rfl) ?_ (fun hHeld => ?_)
            · (try dsimp only); first | with_reducible exact kA.out | with_reducible exact kB.out | with_reducible exact kC.out
            refine man_take 0 37 (v := ?_) ⟨_, rfl, rfl⟩ (by as_aux_lemma => kernel_rfl) (by as_aux_lemma => kernel_rfl) (by as_aux_lemma => kernel_rfl) (fun _ _ _ h => h) (by assumption) ?_ ?_
            rotate_left
            · intro oi ho; cases ho; refine ⟨by rfl, ?_⟩; intro w hSw; (try dsimp only at hSw); go_simp; try with_reducible rfl
            (try simp only [Act.put, List.setIfInBounds_toArray, List.set_cons_zero, List.set_cons_succ])
            refine man_take 1 38 (v := ?_) ⟨_, rfl, rfl⟩ (by as_aux_lemma => kernel_rfl) (by as_aux_lemma => kernel_rfl) (by as_aux_lemma => kernel_rfl) (fun _ _ _ h => h) (by assumption) ?_ ?_
            rotate_left
            · intro oi ho; cases ho; refine ⟨by rfl, ?_⟩; intro w hSw; (try dsimp only at hSw); go_simp; try with_reducible rfl
            (try simp only [Act.put, List.setIfInBounds_toArray, List.set_cons_zero, List.set_cons_succ])
            refine man_take 2 39 (v := ?_) ⟨_, rfl, rfl⟩ (by as_aux_lemma => kernel_rfl) (by as_aux_lemma => kernel_rfl) (by as_aux_lemma => kernel_rfl) (fun _ _ _ h => h) (by assumption) ?_ ?_
            rotate_left
            · intro oi ho; cases ho; refine ⟨by rfl, ?_⟩; intro w hSw; (try dsimp only at hSw); go_simp; try with_reducible rfl
            (try simp only [Act.put, List.setIfInBounds_toArray, List.set_cons_zero, List.set_cons_succ])
            refine man_take 3 40 (v := ?_) ⟨_, rfl, rfl⟩ (by as_aux_lemma => kernel_rfl) (by as_aux_lemma => kernel_rfl) (by as_aux_lemma => kernel_rfl) (fun _ _ _ h => h) (by assumption) ?_ ?_
            rotate_left
            · intro oi ho; cases ho; refine ⟨by rfl, ?_⟩; intro w hSw; (try dsimp only at hSw); go_simp; try with_reducible rfl
            (try simp only [Act.put, List.setIfInBounds_toArray, List.set_cons_zero, List.set_cons_succ])
            refine man_take 4 41 (v := ?_) ⟨_, rfl, rfl⟩ (by as_aux_lemma => kernel_rfl) (by as_aux_lemma => kernel_rfl) (by as_aux_lemma => kernel_rfl) (fun _ _ _ h => h) (by assumption) ?_ ?_
            rotate_left
            · intro oi ho; cases ho; refine ⟨by rfl, ?_⟩; intro w hSw; (try dsimp only at hSw); go_simp; try with_reducible rfl
            (try simp only [Act.put, List.setIfInBounds_toArray, List.set_cons_zero, List.set_cons_succ])
            refine man_take 5 42 (v := ?_) ⟨_, rfl, rfl⟩ (by as_aux_lemma => kernel_rfl) (by as_aux_lemma => kernel_rfl) (by as_aux_lemma => kernel_rfl) (fun _ _ _ h => h) (by assumption) ?_ ?_
            rotate_left
            · intro oi ho; cases ho; refine ⟨by rfl, ?_⟩; intro w hSw; (try dsimp only at hSw); go_simp; try with_reducible rfl
            (try simp only [Act.put, List.setIfInBounds_toArray, List.set_cons_zero, List.set_cons_succ])
            refine man_take 6 43 (v := ?_) ⟨_, rfl, rfl⟩ (by as_aux_lemma => kernel_rfl) (by as_aux_lemma => kernel_rfl) (by as_aux_lemma => kernel_rfl) (fun _ _ _ h => h) (by assumption) ?_ ?_
            rotate_left
            · intro oi ho; cases ho; refine ⟨by rfl, ?_⟩; intro w hSw; (try dsimp only at hSw); go_simp; try with_reducible rfl
            (try simp only [Act.put, List.setIfInBounds_toArray, List.set_cons_zero, List.set_cons_succ])
            refine man_take 7 44 (v := ?_) ⟨_, rfl, rfl⟩ (by as_aux_lemma => kernel_rfl) (by as_aux_lemma => kernel_rfl) (by as_aux_lemma => kernel_rfl) (fun _ _ _ h => h) (by assumption) ?_ ?_
            rotate_left
            · intro oi ho; cases ho; refine ⟨by rfl, ?_⟩; intro w hSw; (try dsimp only at hSw); go_simp; try with_reducible rfl
            (try simp only [Act.put, List.setIfInBounds_toArray, List.set_cons_zero, List.set_cons_succ])
            refine man_take 8 45 (v := ?_) ⟨_, rfl, rfl⟩ (by as_aux_lemma => kernel_rfl) (by as_aux_lemma => kernel_rfl) (by as_aux_lemma => kernel_rfl) (fun _ _ _ h => h) (by assumption) ?_ ?_
            rotate_left
            · intro oi ho; cases ho; refine ⟨by rfl, ?_⟩; intro w hSw; (try dsimp only at hSw); go_simp; try with_reducible rfl
            (try simp only [Act.put, List.setIfInBounds_toArray, List.set_cons_zero, List.set_cons_succ])
            refine man_take 9 46 (v := ?_) ⟨_, rfl, rfl⟩ (by as_aux_lemma => kernel_rfl) (by as_aux_lemma => kernel_rfl) (by as_aux_lemma => kernel_rfl) (fun _ _ _ h => h) (by assumption) ?_ ?_
            rotate_left
            · intro oi ho; cases ho; refine ⟨by rfl, ?_⟩; intro w hSw; (try dsimp only at hSw); go_simp; try with_reducible rfl
            (try simp only [Act.put, List.setIfInBounds_toArray, List.set_cons_zero, List.set_cons_succ])
            refine man_run 10 rfl (by as_aux_lemma => kernel_rfl) (fun K hK => ?_)
            go_simp
            go_at_call 54
            refine (HAT.out _ T.bel.drew x y hltx hlt).mono ?_
            rintro e w5 ⟨rfl, hb5⟩
            have T5 := (T.keep (below_dr wr)).keep hb5
            have kB := Lib.hid (HK.out _ _ T5)
            refine hK.out _ _ ?_ (fun hHeld => ?_)
            · (try dsimp only); first | with_reducible exact kA.out | with_reducible exact kB.out | with_reducible exact kC.out
            clear hK K
            (try simp only [Act.put, List.setIfInBounds_toArray, List.set_cons_zero, List.set_cons_succ])
            refine man_run 11 rfl (by as_aux_lemma => kernel_rfl) (fun K hK => ?_)
            go_simp
            go_at_call 53
            refine (set_any h a y n w.heap.size gt ct tb2 a (gb.getD (y * a + x) false) w5 (by omega) (by omega) hlt hn T5.ot).mono ?_
            rintro e w6 ⟨rfl, ho6, hg6⟩
            have T6 := T5.set ho6 hg6
            have kC := Lib.hid (HK.out _ _ T6)
            refine hK.out _ _ ?_ (fun hHeld => ?_)
            · (try dsimp only); first | with_reducible exact kA.out | with_reducible exact kB.out | with_reducible exact kC.out
            clear hK K
            refine wpAnyH_done (by kernel_rfl) ?_ _
            have RR := Lib.hid (And.intro (HTS.out x y tb2 hT2 hltx hlt) T6)
            clear T T5 T6 ho6 hg6 hb5 hT2 kA kB kC HK
            go_wp2_with fail
            go_roundw
            case rel => exact ⟨x + 1, _, by omega, by go_num, RR.out.1, hnn ▸ RR.out.2⟩
            case measure => simp [intOf]; omega
          · obtain rfl : a = x := by omega
            go_wp2_with fail
            go_roundw
            case rel => exact ⟨y + 1, _, tb2, by omega, by go_num, hT2.row, T⟩
            case measure => simp [intOf]; omega
      · obtain rfl : h = y := by omega
        obtain ⟨gr, rfl⟩ := own_addr G.otr hh1
        obtain ⟨f0, f1, f2, f3, f4, f5, f6⟩ := G.r0.frozen7
        obtain ⟨z0, z1, z2, z3, z4, z5, z6⟩ := G.r0.cell7
        have hg7 := grown_set7 wr (w.heap.size + 1) (.int .i64 a) (.int .i64 h) (.slice (some ⟨b, o, none⟩) a cl) (.slice (some ⟨gr, 0, none⟩) h cr) (.int .i64 h) (.int .i64 a) (.slice (some ⟨gt, 0, none⟩) (a * h) ct)
        have R1 := rd_of_own (G.otr.kept hg7 (.inr fun e => own_blk_ne G.otr G.r0 (by decide) e.symm))
        have R2 := rd_of_own (G.ot.kept hg7 (.inr fun e => own_blk_ne G.ot G.r0 (by decide) e.symm))
        have R3 := G.bel.grown hg7 G.bel.size (fun k hk => by cases hk; omega)
        obtain ⟨q0, q1, q2, q3, q4, q5, q6⟩ := (G.r0.set7 (.int .i64 a) (.int .i64 h) (.slice (some ⟨b, o, none⟩) a cl) (.slice (some ⟨gr, 0, none⟩) h cr) (.int .i64 h) (.int .i64 a) (.slice (some ⟨gt, 0, none⟩) (a * h) ct)).cell7
        unfold set7 at q0 q1 q2 q3 q4 q5 q6 R1 R2 R3
        replace R1 := Lib.hid R1
        replace R2 := Lib.hid R2
        replace R3 := Lib.hid R3
        clear hg7
        go_wp2_with fail
        refine bodyPost_ret (v := .agg #[.int .i64 a, .int .i64 h, .slice (some ⟨b, o, none⟩) a cl, .slice (some ⟨gr, 0, none⟩) h cr, .int .i64 h, .int .i64 a, .slice (some ⟨gt, 0, none⟩) (a * h) ct]) (by simp [results, Try.results38, go_sem, q0, q1, q2, q3, q4, q5, q6]) rfl ?_
        exact ⟨gr, cr, gt, ct, tb, rfl, hT, R1.out, R2.out, R3.out⟩
  · go_simp
    refine hK.out _ _ ?_ (fun hHeld => ?_)
    · (try dsimp only); first | with_reducible exact kA.out | with_reducible exact kB.out | with_reducible exact kC.out | with_reducible exact kD.out | with_reducible exact kE.out | exact kB.out
    clear hK K
    (try simp only [Act.put, List.setIfInBounds_toArray, List.set_cons_zero, List.set_cons_succ])
    refine man_run 9 rfl (by as_aux_lemma => kernel_rfl) (fun K hK => ?_)
    go_simp
    go_at_call 52
    refine (HZ.out _).mono ?_
    rintro e wz ⟨gt, ct, rfl, hownz, hbz⟩
    have hz := Z0.keep hbz
    have S2 := S1a.keep hbz
    obtain ⟨f0, f1, f2, f3, f4, f5, f6⟩ := hz.frozen7
    obtain ⟨z0, z1, z2, z3, z4, z5, z6⟩ := hz.cell7
    have hG7 := (S2.blk 0 rfl).grown (grown_set7 wz (w.heap.size + 2) (.int .i64 a) (.int .i64 h) (.slice (some ⟨b, o, none⟩) a cl) (.slice none 0 0) (.int .i64 h) (.int .i64 a) (.slice (some ⟨gt, 0, none⟩) (a * h) ct)) (by simp)
    have kC := Lib.hid (S2.blk 0 rfl).cell3
    have kD := hG7.cell3
    unfold set7 at kD
    replace kD := Lib.hid kD
    have G := GS.start2 (b := b) (o := o) (cl := cl) S2 S1a.size hownz hz
    unfold set7 at G
    replace G := Lib.hid G
    refine hK.out _ _ ?_ (fun hHeld => ?_)
    · (try dsimp only); first | with_reducible exact kA.out | with_reducible exact kB.out | with_reducible exact kC.out | with_reducible exact kD.out | with_reducible exact kE.out | exact kB.out
    clear hK K
    (try simp only [Act.put, List.setIfInBounds_toArray, List.set_cons_zero, List.set_cons_succ])
    refine man_take 10 18 (v := ?_) ⟨_, rfl, rfl⟩ (by as_aux_lemma => kernel_rfl) (by as_aux_lemma => kernel_rfl) (by as_aux_lemma => kernel_rfl) (fun _ _ _ h => h) (by assumption) ?_ ?_
    rotate_left
    · intro oi ho; cases ho; refine ⟨by rfl, ?_⟩; intro w hSw; (try dsimp only at hSw); go_simp; try with_reducible rfl
    (try simp only [Act.put, List.setIfInBounds_toArray, List.set_cons_zero, List.set_cons_succ])
    refine man_run 12 rfl (by as_aux_lemma => kernel_rfl) (fun K hK => ?_)
    go_simp
    refine hK.out _ _ ?_ (fun hHeld => ?_)
    · (try dsimp only); first | with_reducible exact kA.out | with_reducible exact kB.out | with_reducible exact kC.out | with_reducible exact kD.out | with_reducible exact kE.out | exact kB.out
    clear hK K
    refine wpAnyH_done (by kernel_rfl) ?_ _
    clear S1 S1a S2 kA kB kC kD hownz hbz Z0
    go_wp2_with fail
    go_loopw [6] (fun i wr => ∃ (y : Nat) (vr : Value) (tb : List Bool), y ≤ h ∧ i = .int .i64 y ∧ TieOk a h gb l y 0 tb ∧ GS w (w.heap.size + 2) a h bA oA c b o cl gt ct vr y tb wr) (fun i _ => h - (intOf i).toNat)
    case atStart => exact ⟨0, _, _, Nat.zero_le _, rfl, TieOk.start a h gb l, G.out⟩
    case round =>
      clear G
      obtain ⟨y, vr, tb, hy, rfl, hT, G⟩ := hrel
      obtain ⟨Ar, cr, rfl⟩ := own_slice G.otr
      have D := G.d
      unfold dC at D
      obtain ⟨d0, d1, d2, d3, d4, d5, d6⟩ := D.cell7
      obtain ⟨c0, c1, c2⟩ := G.g0.cell3
      by_cases hlt : y < h
      · have hsm : y + 1 ≤ 1048576 := by omega
        go_wp2_with (at_builtin; go_loud (refine wpList_app _ rfl (.tmp 26) (.tmp 28) 22 rfl w.heap.size 3 i0 (.int .i64 0) 8 Try.underlying22 hi hz0 hz1 hz2 rfl (by decide) (.slice Ar y cr) y _ rfl (G.otr.alloc _) wr.heap.size (.int .i64 y) rfl (new_cell wr _ _) rfl hsm (size_alloc_le G.bel.size _) ?_))
        intro g' cp' w9 hown9 hgr9
        have hd9 := (D.alloc _).grown hgr9 (own_blk_ne (G.otr.alloc _) (D.alloc (.cells #[.int .i64 y] 3)) (by decide))
        have k3 := hd9.cell 3
        have l3 := hd9.frozen 3
        simp only [List.getElem?_toArray, List.getElem?_cons_zero, List.getElem?_cons_succ] at k3
        have G9 := Lib.hid (G.app _ hown9 hgr9)
        clear c0 c1 c2 d0 d1 d2 d3 d4 d5 d6 D G hd9 hown9 hgr9
        go_wp2_with fail
        go_loopw [7] (fun i wq => ∃ (x : Nat) (tb : List Bool), x ≤ a ∧ i = .int .i64 x ∧ TieOk a h gb l y x tb ∧ GS w (w.heap.size + 2) a h bA oA c b o cl gt ct (.slice (some ⟨g', 0, none⟩) (y + 1) cp') (y + 1) tb wq) (fun i _ => a - (intOf i).toNat)
        case atStart => exact ⟨0, tb, Nat.zero_le _, rfl, hT, G9.out⟩
        case round =>
          clear G9 hT k3 l3
          obtain ⟨x, tb2, hxa, rfl, hT2, T⟩ := hrel
          obtain ⟨c0, c1, c2⟩ := T.g0.cell3
          by_cases hltx : x < a
          · have hxx := HX.out x hltx
            have hle := HLD.out _ T.bel x hltx
            obtain ⟨n, hnn⟩ : ∃ n : Nat, l.getD x 0 = (n : Int) := ⟨(l.getD x 0).toNat, by omega⟩
            have hn : n < a := by omega
            have HK := Lib.hid (show ∀ (u : World) tb', GS w (w.heap.size + 2) a h bA oA c b o cl gt ct (.slice (some ⟨g', 0, none⟩) (y + 1) cp') (y + 1) tb' u → (fun u : World => u.cell? ⟨(w.heap.size + 2), 4, none⟩ = some (.int .i64 h) ∧ u.cell? ⟨(w.heap.size + 2), 5, none⟩ = some (.int .i64 a) ∧ u.cell? ⟨(w.heap.size + 2), 6, none⟩ = some (.slice (some ⟨gt, 0, none⟩) (a * h) ct) ∧ u.cell? ⟨b, o + x, none⟩ = some (.int .i64 (n : Int)) ∧ u.cell? ⟨w.heap.size, 0, none⟩ = some (.int .i64 a) ∧ u.cell? ⟨w.heap.size, 1, none⟩ = some (.int .i64 h) ∧ u.cell? ⟨w.heap.size, 2, none⟩ = some (.slice (some ⟨bA, oA, none⟩) (h * a) c)) u from fun u tb' H => ⟨H.cells.1, H.cells.2.1, H.cells.2.2, (HLD.out u H.bel x hltx).trans (by rw [hnn]), H.g0.cell3⟩)
            have kA := Lib.hid (HK.out _ _ (T.keep (below_dr wr)))
            go_wp2_with fail
            clear c0 c1 c2 hle hxx
            refine wp_region_held_drew (S := (fun u : World => u.cell? ⟨(w.heap.size + 2), 4, none⟩ = some (.int .i64 h) ∧ u.cell? ⟨(w.heap.size + 2), 5, none⟩ = some (.int .i64 a) ∧ u.cell? ⟨(w.heap.size + 2), 6, none⟩ = some (.slice (some ⟨gt, 0, none⟩) (a * h) ct) ∧ u.cell? ⟨b, o + x, none⟩ = some (.int .i64 (n : Int)) ∧ u.cell? ⟨w.heap.size, 0, none⟩ = some (.int .i64 a) ∧ u.cell? ⟨w.heap.size, 1, none⟩ = some (.int .i64 h) ∧ u.cell? ⟨w.heap.size, 2, none⟩ = some (.slice (some ⟨bA, oA, none⟩) (h * a) c))) (by kernel_rfl) ?_ (fun hHeld => ?_)
            · (try dsimp only); first | with_reducible exact kA.out | with_reducible exact kB.out | with_reducible exact kC.out
            refine man_take 0 37 (v := ?_) ⟨_, rfl, rfl⟩ (by as_aux_lemma => kernel_rfl) (by as_aux_lemma => kernel_rfl) (by as_aux_lemma => kernel_rfl) (fun _ _ _ h => h) (by assumption) ?_ ?_
            rotate_left
            · intro oi ho; cases ho; refine ⟨by rfl, ?_⟩; intro w hSw; (try dsimp only at hSw); go_simp; try with_reducible rfl
            (try simp only [Act.put, List.setIfInBounds_toArray, List.set_cons_zero, List.set_cons_succ])
            refine man_take 1 38 (v := ?_) ⟨_, rfl, rfl⟩ (by as_aux_lemma => kernel_rfl) (by as_aux_lemma => kernel_rfl) (by as_aux_lemma => kernel_rfl) (fun _ _ _ h => h) (by assumption) ?_ ?_
            rotate_left
            · intro oi ho; cases ho; refine ⟨by rfl, ?_⟩; intro w hSw; (try dsimp only at hSw); go_simp; try with_reducible rfl
            (try simp only [Act.put, List.setIfInBounds_toArray, List.set_cons_zero, List.set_cons_succ])
            refine man_take 2 39 (v := ?_) ⟨_, rfl, rfl⟩ (by as_aux_lemma => kernel_rfl) (by as_aux_lemma => kernel_rfl) (by as_aux_lemma => kernel_rfl) (fun _ _ _ h => h) (by assumption) ?_ ?_
            rotate_left
            · intro oi ho; cases ho; refine ⟨by rfl, ?_⟩; intro w hSw; (try dsimp only at hSw); go_simp; try with_reducible rfl
            (try simp only [Act.put, List.setIfInBounds_toArray, List.set_cons_zero, List.set_cons_succ])
            refine man_take 3 40 (v := ?_) ⟨_, rfl, rfl⟩ (by as_aux_lemma => kernel_rfl) (by as_aux_lemma => kernel_rfl) (by as_aux_lemma => kernel_rfl) (fun _ _ _ h => h) (by assumption) ?_ ?_
            rotate_left
            · intro oi ho; cases ho; refine ⟨by rfl, ?_⟩; intro w hSw; (try dsimp only at hSw); go_simp; try with_reducible rfl
            (try simp only [Act.put, List.setIfInBounds_toArray, List.set_cons_zero, List.set_cons_succ])
            refine man_take 4 41 (v := ?_) ⟨_, rfl, rfl⟩ (by as_aux_lemma => kernel_rfl) (by as_aux_lemma => kernel_rfl) (by as_aux_lemma => kernel_rfl) (fun _ _ _ h => h) (by assumption) ?_ ?_
            rotate_left
            · intro oi ho; cases ho; refine ⟨by rfl, ?_⟩; intro w hSw; (try dsimp only at hSw); go_simp; try with_reducible rfl
            (try simp only [Act.put, List.setIfInBounds_toArray, List.set_cons_zero, List.set_cons_succ])
            refine man_take 5 42 (v := ?_) ⟨_, rfl, rfl⟩ (by as_aux_lemma => kernel_rfl) (by as_aux_lemma => kernel_rfl) (by as_aux_lemma => kernel_rfl) (fun _ _ _ h => h) (by assumption) ?_ ?_
            rotate_left
            · intro oi ho; cases ho; refine ⟨by rfl, ?_⟩; intro w hSw; (try dsimp only at hSw); go_simp; try with_reducible rfl
            (try simp only [Act.put, List.setIfInBounds_toArray, List.set_cons_zero, List.set_cons_succ])
            refine man_take 6 43 (v := ?_) ⟨_, rfl, rfl⟩ (by as_aux_lemma => kernel_rfl) (by as_aux_lemma => kernel_rfl) (by as_aux_lemma => kernel_rfl) (fun _ _ _ h => h) (by assumption) ?_ ?_
            rotate_left
            · intro oi ho; cases ho; refine ⟨by rfl, ?_⟩; intro w hSw; (try dsimp only at hSw); go_simp; try with_reducible rfl
            (try simp only [Act.put, List.setIfInBounds_toArray, List.set_cons_zero, List.set_cons_succ])
            refine man_take 7 44 (v := ?_) ⟨_, rfl, rfl⟩ (by as_aux_lemma => kernel_rfl) (by as_aux_lemma => kernel_rfl) (by as_aux_lemma => kernel_rfl) (fun _ _ _ h => h) (by assumption) ?_ ?_
            rotate_left
            · intro oi ho; cases ho; refine ⟨by rfl, ?_⟩; intro w hSw; (try dsimp only at hSw); go_simp; try with_reducible rfl
            (try simp only [Act.put, List.setIfInBounds_toArray, List.set_cons_zero, List.set_cons_succ])
            refine man_take 8 45 (v := ?_) ⟨_, rfl, rfl⟩ (by as_aux_lemma => kernel_rfl) (by as_aux_lemma => kernel_rfl) (by as_aux_lemma => kernel_rfl) (fun _ _ _ h => h) (by assumption) ?_ ?_
            rotate_left
            · intro oi ho; cases ho; refine ⟨by rfl, ?_⟩; intro w hSw; (try dsimp only at hSw); go_simp; try with_reducible rfl
            (try simp only [Act.put, List.setIfInBounds_toArray, List.set_cons_zero, List.set_cons_succ])
            refine man_take 9 46 (v := ?_) ⟨_, rfl, rfl⟩ (by as_aux_lemma => kernel_rfl) (by as_aux_lemma => kernel_rfl) (by as_aux_lemma => kernel_rfl) (fun _ _ _ h => h) (by assumption) ?_ ?_
            rotate_left
            · intro oi ho; cases ho; refine ⟨by rfl, ?_⟩; intro w hSw; (try dsimp only at hSw); go_simp; try with_reducible rfl
            (try simp only [Act.put, List.setIfInBounds_toArray, List.set_cons_zero, List.set_cons_succ])
            refine man_run 10 rfl (by as_aux_lemma => kernel_rfl) (fun K hK => ?_)
            go_simp
            go_at_call 54
            refine (HAT.out _ T.bel.drew x y hltx hlt).mono ?_
            rintro e w5 ⟨rfl, hb5⟩
            have T5 := (T.keep (below_dr wr)).keep hb5
            have kB := Lib.hid (HK.out _ _ T5)
            refine hK.out _ _ ?_ (fun hHeld => ?_)
            · (try dsimp only); first | with_reducible exact kA.out | with_reducible exact kB.out | with_reducible exact kC.out
            clear hK K
            (try simp only [Act.put, List.setIfInBounds_toArray, List.set_cons_zero, List.set_cons_succ])
            refine man_run 11 rfl (by as_aux_lemma => kernel_rfl) (fun K hK => ?_)
            go_simp
            go_at_call 53
            refine (set_any h a y n w.heap.size gt ct tb2 a (gb.getD (y * a + x) false) w5 (by omega) (by omega) hlt hn T5.ot).mono ?_
            rintro e w6 ⟨rfl, ho6, hg6⟩
            have T6 := T5.set ho6 hg6
            have kC := Lib.hid (HK.out _ _ T6)
            refine hK.out _ _ ?_ (fun hHeld => ?_)
            · (try dsimp only); first | with_reducible exact kA.out | with_reducible exact kB.out | with_reducible exact kC.out
            clear hK K
            refine wpAnyH_done (by kernel_rfl) ?_ _
            have RR := Lib.hid (And.intro (HTS.out x y tb2 hT2 hltx hlt) T6)
            clear T T5 T6 ho6 hg6 hb5 hT2 kA kB kC HK
            go_wp2_with fail
            go_roundw
            case rel => exact ⟨x + 1, _, by omega, by go_num, RR.out.1, hnn ▸ RR.out.2⟩
            case measure => simp [intOf]; omega
          · obtain rfl : a = x := by omega
            go_wp2_with fail
            go_roundw
            case rel => exact ⟨y + 1, _, tb2, by omega, by go_num, hT2.row, T⟩
            case measure => simp [intOf]; omega
      · obtain rfl : h = y := by omega
        obtain ⟨gr, rfl⟩ := own_addr G.otr hh1
        obtain ⟨f0, f1, f2, f3, f4, f5, f6⟩ := G.r0.frozen7
        obtain ⟨z0, z1, z2, z3, z4, z5, z6⟩ := G.r0.cell7
        have hg7 := grown_set7 wr (w.heap.size + 1) (.int .i64 a) (.int .i64 h) (.slice (some ⟨b, o, none⟩) a cl) (.slice (some ⟨gr, 0, none⟩) h cr) (.int .i64 h) (.int .i64 a) (.slice (some ⟨gt, 0, none⟩) (a * h) ct)
        have R1 := rd_of_own (G.otr.kept hg7 (.inr fun e => own_blk_ne G.otr G.r0 (by decide) e.symm))
        have R2 := rd_of_own (G.ot.kept hg7 (.inr fun e => own_blk_ne G.ot G.r0 (by decide) e.symm))
        have R3 := G.bel.grown hg7 G.bel.size (fun k hk => by cases hk; omega)
        obtain ⟨q0, q1, q2, q3, q4, q5, q6⟩ := (G.r0.set7 (.int .i64 a) (.int .i64 h) (.slice (some ⟨b, o, none⟩) a cl) (.slice (some ⟨gr, 0, none⟩) h cr) (.int .i64 h) (.int .i64 a) (.slice (some ⟨gt, 0, none⟩) (a * h) ct)).cell7
        unfold set7 at q0 q1 q2 q3 q4 q5 q6 R1 R2 R3
        replace R1 := Lib.hid R1
        replace R2 := Lib.hid R2
        replace R3 := Lib.hid R3
        clear hg7
        go_wp2_with fail
        refine bodyPost_ret (v := .agg #[.int .i64 a, .int .i64 h, .slice (some ⟨b, o, none⟩) a cl, .slice (some ⟨gr, 0, none⟩) h cr, .int .i64 h, .int .i64 a, .slice (some ⟨gt, 0, none⟩) (a * h) ct]) (by simp [results, Try.results38, go_sem, q0, q1, q2, q3, q4, q5, q6]) rfl ?_
        exact ⟨gr, cr, gt, ct, tb, rfl, hT, R1.out, R2.out, R3.out⟩
end Go.Proofs.Ytmajmbfbnchbfaa
