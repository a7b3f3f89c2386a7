/- loomlog.Find: the fault of lifts. -/
import Derived.Test.YtfjdlbilnoojkaaSpoiltz
import Derived.Test.YtfjdlbilnoojkaaMg6z
import Derived.Test.YtfjdlbilnoojkaaFindP20z
import Derived.Test.YtfjdlbilnoojkaaMg5z
import Derived.Test.YtfjdlbilnoojkaaInvRz
import Derived.Deep.Draws
namespace Go.Proofs.Ytfjdlbilnoojkaa
open Go.RowKit

/-- What hands back a fault and an error. -/
def RetF (P : Int → Int → Int → Prop) (w : World) (e : Ending) (w' : World) : Prop := ∃ q k t, e = .returned (.tuple #[.agg #[.int .u8 q, .int .i64 k], .int .i64 t]) ∧ P q k t ∧ Below w.heap.size w w'
set_option linter.unusedVariables false in
def FN (w : World) (L : List Fact) (a ka kb : Nat) (A B : Option Addr) (nA cA nB cB : Nat) (bs bt : List Bool) : List Bool → List Value → World → Prop
  | [l0, l1, l2, l3, l4, l5], [x0, x1, x2, x3, x4, x5], u => (St w L u) ∧ (l0 = true → x0 = .agg #[.int .i64 (a : Int), .int .i64 (ka : Int), .slice A nA cA]) ∧ (l1 = true → ∃ (A' : Option Addr) (c' : Nat), x1 = .slice A' ka c' ∧ LRB u A' (rowsB a ka bs)) ∧ (l2 = true → x2 = .agg #[.int .i64 (a : Int), .int .i64 (kb : Int), .slice B nB cB]) ∧ (l3 = true → ∃ (A' : Option Addr) (c' : Nat), x3 = .slice A' kb c' ∧ LRB u A' (rowsB a kb bt)) ∧ (l4 = true → l1 = true ∧ x4 = x1) ∧ (l5 = true → l3 = true ∧ x5 = x3)
  | _, _, _ => False
theorem FN_get (w : World) (L : List Fact) (a ka kb : Nat) (A B : Option Addr) (nA cA nB cB : Nat) (bs bt : List Bool) {l0 l1 l2 l3 l4 l5 : Bool} {x0 x1 x2 x3 x4 x5 : Value} {u : World} (hyp : FN w L a ka kb A B nA cA nB cB bs bt [l0, l1, l2, l3, l4, l5] [x0, x1, x2, x3, x4, x5] u) : (St w L u) ∧ (l0 = true → x0 = .agg #[.int .i64 (a : Int), .int .i64 (ka : Int), .slice A nA cA]) ∧ (l1 = true → ∃ (A' : Option Addr) (c' : Nat), x1 = .slice A' ka c' ∧ LRB u A' (rowsB a ka bs)) ∧ (l2 = true → x2 = .agg #[.int .i64 (a : Int), .int .i64 (kb : Int), .slice B nB cB]) ∧ (l3 = true → ∃ (A' : Option Addr) (c' : Nat), x3 = .slice A' kb c' ∧ LRB u A' (rowsB a kb bt)) ∧ (l4 = true → l1 = true ∧ x4 = x1) ∧ (l5 = true → l3 = true ∧ x5 = x3) := hyp
theorem FN_mk (w : World) (L : List Fact) (a ka kb : Nat) (A B : Option Addr) (nA cA nB cB : Nat) (bs bt : List Bool) {l0 l1 l2 l3 l4 l5 : Bool} {x0 x1 x2 x3 x4 x5 : Value} {u : World} (hyp : (St w L u) ∧ (l0 = true → x0 = .agg #[.int .i64 (a : Int), .int .i64 (ka : Int), .slice A nA cA]) ∧ (l1 = true → ∃ (A' : Option Addr) (c' : Nat), x1 = .slice A' ka c' ∧ LRB u A' (rowsB a ka bs)) ∧ (l2 = true → x2 = .agg #[.int .i64 (a : Int), .int .i64 (kb : Int), .slice B nB cB]) ∧ (l3 = true → ∃ (A' : Option Addr) (c' : Nat), x3 = .slice A' kb c' ∧ LRB u A' (rowsB a kb bt)) ∧ (l4 = true → l1 = true ∧ x4 = x1) ∧ (l5 = true → l3 = true ∧ x5 = x3)) : FN w L a ka kb A B nA cA nB cB bs bt [l0, l1, l2, l3, l4, l5] [x0, x1, x2, x3, x4, x5] u := hyp
theorem FN_b : ∀ l : List Bool, l.length = 6 → ∃ a0 a1 a2 a3 a4 a5, l = [a0, a1, a2, a3, a4, a5]
  | [a0, a1, a2, a3, a4, a5], _ => ⟨a0, a1, a2, a3, a4, a5, rfl⟩
theorem FN_v : ∀ l : List Value, l.length = 6 → ∃ a0 a1 a2 a3 a4 a5, l = [a0, a1, a2, a3, a4, a5]
  | [a0, a1, a2, a3, a4, a5], _ => ⟨a0, a1, a2, a3, a4, a5, rfl⟩
set_option linter.unusedVariables false in
set_option maxHeartbeats 16000000 in
set_option maxRecDepth 100000 in
theorem find20_any (W H W2 H2 : Int) (bs bt : List Bool) (A B : Option Addr) (nA cA nB cB : Nat) (w : World) (hr : Rd w A nA (bs.map Value.bool)) (hnc : nA ≤ cA) (hr2 : Rd w B nB (bt.map Value.bool)) (hnc2 : nB ≤ cB) :
    Calls Try.prog 23 #[.agg #[.int .i64 W, .int .i64 H, .slice A nA cA], .agg #[.int .i64 W2, .int .i64 H2, .slice B nB cB]] w (RetF (FindA W H bs W2 H2 bt) w) := by
  have hl : bs.length = nA := by simpa using hr.len
  have hl2 : bt.length = nB := by simpa using hr2.len
  have S0 := (((St.start w).box #[.int .i64 W, .int .i64 H, .slice A nA cA] 25).box #[.int .i64 W2, .int .i64 H2, .slice B nB cB] 25).box #[.int .u8 0, .int .i64 0] 46
  simp only [size_alloc1, List.nil_append, List.cons_append] at S0
  have HP := Lib.hid (fun u => pcheck_any W H A nA cA u)
  have HP2 := Lib.hid (fun u => pcheck_any W2 H2 B nB cB u)
  obtain ⟨c0, c1, c2⟩ := (S0.blk 0 rfl).cell3
  by_cases hk : chkP W H nA = 0
  · have hkb : (chkP W H nA != 0) = false := by simpa using hk
    by_cases hk2 : chkP W2 H2 nB = 0
    · have hkb2 : (chkP W2 H2 nB != 0) = false := by simpa using hk2
      by_cases hww : W = W2
      · subst hww
        have HOK := Lib.hid (show ∀ (a ka kb : Nat), W = (a : Int) → H = (ka : Int) → H2 = (kb : Int) → ∀ q k t, FindR (rowsB a ka bs) (rowsB a kb bt) q k t → FindA W H bs W H2 bt q k t from by
          rintro a ka kb rfl rfl rfl q k t h
          exact FindA.ok (by rw [hl]; exact hk) (by rw [hl2]; exact hk2) h)
        obtain ⟨a, ka, rfl, rfl, ha1, ha, hka1, hka, hn⟩ := chkP_zero hk
        obtain ⟨a', kb, haa, rfl, _, _, hkb1, hkb3, hn2⟩ := chkP_zero hk2
        obtain rfl : a = a' := by omega
        have HLA := Lib.hid (hl.trans hn)
        have HLB := Lib.hid (hl2.trans hn2)
        have HRA := Lib.hid (rowsB_rows HLA.out)
        replace HOK := Lib.hid (HOK.out a ka kb rfl rfl rfl)
        have HPA := Lib.hid (fun u (hu : Below w.heap.size w u) => (picks_any a ka bs A nA cA u ha1 (by omega) hka1 hka HLA.out (hr.below hu) hnc : Calls _ _ _ u fun e w' => ∃ A' c', e = .returned (.slice A' ka c') ∧ LRB w' A' (rowsB a ka bs) ∧ Below u.heap.size u w'))
        have HPB := Lib.hid (fun u (hu : Below w.heap.size w u) => (picks_any a kb bt B nB cB u ha1 (by omega) hkb1 hkb3 HLB.out (hr2.below hu) hnc2 : Calls _ _ _ u fun e w' => ∃ A' c', e = .returned (.slice A' kb c') ∧ LRB w' A' (rowsB a kb bt) ∧ Below u.heap.size u w'))
        clear hr hr2 hl hl2 hn hn2 hk hk2 haa
        generalize chkP a ka nA = K at *
        generalize chkP a kb nB = K2 at *
        go_enter Try.func23, Try.ntmps23
        go_wp2_with fail
        refine (HP.out _).mono ?_
        rintro e w1 ⟨rfl, hb1⟩
        have S1 := S0.keep hb1
        clear c0 c1 c2
        obtain ⟨d0, d1, d2⟩ := (S1.blk 1 rfl).cell3
        go_wp2_with fail
        refine (HP2.out _).mono ?_
        rintro e w2 ⟨rfl, hb2⟩
        have S2 := S1.keep hb2
        clear d0 d1 d2 S0 S1 hb1 hb2
        obtain ⟨c0, c1, c2⟩ := (S2.blk 0 rfl).cell3
        obtain ⟨d0, d1, d2⟩ := (S2.blk 1 rfl).cell3
        go_wp2_with fail
        clear c0 c1 c2 d0 d1 d2
        generalize hLF : [Fact.blk w.heap.size 25 #[.int .i64 a, .int .i64 ka, .slice A nA cA], Fact.blk (w.heap.size + 1) 25 #[.int .i64 a, .int .i64 kb, .slice B nB cB], Fact.blk (w.heap.size + 1 + 1) 46 #[.int .u8 0, .int .i64 0]] = LF at S2
        refine wp_region_invL 6 [some 32, some 33, some 34, some 35, some 8, some 9] (FN w LF a ka kb A B nA cA nB cB bs bt) (by kernel_rfl) rfl rfl (by decide) (by kernel_rfl) (fun xs hx => ?_) (fun i hi => ?_) (fun xs wf hx hG => ?_)
        · obtain ⟨x0, x1, x2, x3, x4, x5, rfl⟩ := FN_v xs hx
          show FN w LF a ka kb A B nA cA nB cB bs bt [false, false, false, false, false, false] [x0, x1, x2, x3, x4, x5] _
          refine FN_mk w LF a ka kb A B nA cA nB cB bs bt ?_
          exact ⟨S2.drew, (fun g1 => by cases g1), (fun g1 => by cases g1), (fun g1 => by cases g1), (fun g1 => by cases g1), (fun g1 => by cases g1), (fun g1 => by cases g1)⟩
        · match i, hi with
          | 0, _ =>
            intro o ho l xs w1 hl hx hG hi hdep K hK
            obtain rfl := Option.some.inj (ho.symm.trans rfl)
            clear ho
            obtain ⟨l0, l1, l2, l3, l4, l5, rfl⟩ := FN_b l hl
            obtain ⟨x0, x1, x2, x3, x4, x5, rfl⟩ := FN_v xs hx
            obtain rfl : l0 = false := hi
            clear hdep hl hx
            dsimp only [setAll, List.set_cons_zero, List.set_cons_succ] at hK ⊢
            have hf := FN_get w LF a ka kb A B nA cA nB cB bs bt hG
            have hF0 := ((hLF ▸ hf.1 : St w [Fact.blk _ _ _, _, _] w1).blk 0 rfl).cell3
            clear hf
            cases hF0
            rename_i c0 ez1
            cases ez1
            rename_i c1 c2
            go_simp
            refine hK.out _ _ ?_
            clear hK K
            have hC := FN_get w LF a ka kb A B nA cA nB cB bs bt hG
            cases hC
            rename_i SD ez2
            cases ez2
            rename_i h0 ez3
            cases ez3
            rename_i h1 ez4
            cases ez4
            rename_i h2 ez5
            cases ez5
            rename_i h3 ez6
            cases ez6
            rename_i h4 h5
            refine FN_mk w LF a ka kb A B nA cA nB cB bs bt ?_
            exact ⟨SD, (fun g1 => rfl), h1, h2, h3, h4, h5⟩
          | 1, _ =>
            intro o ho l xs w1 hl hx hG hi hdep K hK
            obtain rfl := Option.some.inj (ho.symm.trans rfl)
            clear ho
            obtain ⟨l0, l1, l2, l3, l4, l5, rfl⟩ := FN_b l hl
            obtain ⟨x0, x1, x2, x3, x4, x5, rfl⟩ := FN_v xs hx
            obtain rfl : l1 = false := hi
            obtain rfl : l0 = true := hdep 0 (by kernel_rfl)
            clear hdep hl hx
            dsimp only [setAll, List.set_cons_zero, List.set_cons_succ] at hK ⊢
            have hf := FN_get w LF a ka kb A B nA cA nB cB bs bt hG
            have hF0 := (hf.2.1 rfl)
            have SX := hf.1
            clear hf
            subst hF0
            go_simp
            refine (HPA.out _ SX.below).mono ?_
            rintro e wz ⟨A', c', rfl, hlr, hbz⟩
            try go_simp
            refine hK.out _ _ ?_
            clear hK K
            have hC := FN_get w LF a ka kb A B nA cA nB cB bs bt hG
            cases hC
            rename_i SD ez7
            cases ez7
            rename_i h0 ez8
            cases ez8
            rename_i h1 ez9
            cases ez9
            rename_i h2 ez10
            cases ez10
            rename_i h3 ez11
            cases ez11
            rename_i h4 h5
            have hb := hbz
            refine FN_mk w LF a ka kb A B nA cA nB cB bs bt ?_
            exact ⟨SD.keep hb, (fun g1 => by obtain e := h0 g1; exact e), (fun g1 => ⟨_, _, rfl, hlr⟩), (fun g1 => by obtain e := h2 g1; exact e), (fun g1 => by obtain ⟨A', c', e, lr⟩ := h3 g1; exact ⟨A', c', e, lr.below hb⟩), (fun g1 => by obtain ⟨f1, e⟩ := h4 g1; cases f1), (fun g1 => by obtain ⟨f3, e⟩ := h5 g1; exact ⟨f3, e⟩)⟩
          | 2, _ =>
            intro o ho l xs w1 hl hx hG hi hdep K hK
            obtain rfl := Option.some.inj (ho.symm.trans rfl)
            clear ho
            obtain ⟨l0, l1, l2, l3, l4, l5, rfl⟩ := FN_b l hl
            obtain ⟨x0, x1, x2, x3, x4, x5, rfl⟩ := FN_v xs hx
            obtain rfl : l2 = false := hi
            clear hdep hl hx
            dsimp only [setAll, List.set_cons_zero, List.set_cons_succ] at hK ⊢
            have hf := FN_get w LF a ka kb A B nA cA nB cB bs bt hG
            have hF0 := ((hLF ▸ hf.1 : St w [_, Fact.blk _ _ _, _] w1).blk 1 rfl).cell3
            clear hf
            cases hF0
            rename_i c0 ez12
            cases ez12
            rename_i c1 c2
            go_simp
            refine hK.out _ _ ?_
            clear hK K
            have hC := FN_get w LF a ka kb A B nA cA nB cB bs bt hG
            cases hC
            rename_i SD ez13
            cases ez13
            rename_i h0 ez14
            cases ez14
            rename_i h1 ez15
            cases ez15
            rename_i h2 ez16
            cases ez16
            rename_i h3 ez17
            cases ez17
            rename_i h4 h5
            refine FN_mk w LF a ka kb A B nA cA nB cB bs bt ?_
            exact ⟨SD, h0, h1, (fun g1 => rfl), h3, h4, h5⟩
          | 3, _ =>
            intro o ho l xs w1 hl hx hG hi hdep K hK
            obtain rfl := Option.some.inj (ho.symm.trans rfl)
            clear ho
            obtain ⟨l0, l1, l2, l3, l4, l5, rfl⟩ := FN_b l hl
            obtain ⟨x0, x1, x2, x3, x4, x5, rfl⟩ := FN_v xs hx
            obtain rfl : l3 = false := hi
            obtain rfl : l2 = true := hdep 2 (by kernel_rfl)
            obtain rfl : l1 = true := hdep 1 (by kernel_rfl)
            clear hdep hl hx
            dsimp only [setAll, List.set_cons_zero, List.set_cons_succ] at hK ⊢
            have hf := FN_get w LF a ka kb A B nA cA nB cB bs bt hG
            have hF0 := (hf.2.2.2.1 rfl)
            have SX := hf.1
            clear hf
            subst hF0
            go_simp
            refine (HPB.out _ SX.below).mono ?_
            rintro e wz ⟨A', c', rfl, hlr, hbz⟩
            try go_simp
            refine hK.out _ _ ?_
            clear hK K
            have hC := FN_get w LF a ka kb A B nA cA nB cB bs bt hG
            cases hC
            rename_i SD ez18
            cases ez18
            rename_i h0 ez19
            cases ez19
            rename_i h1 ez20
            cases ez20
            rename_i h2 ez21
            cases ez21
            rename_i h3 ez22
            cases ez22
            rename_i h4 h5
            have hb := hbz
            refine FN_mk w LF a ka kb A B nA cA nB cB bs bt ?_
            exact ⟨SD.keep hb, (fun g1 => by obtain e := h0 g1; exact e), (fun g1 => by obtain ⟨A', c', e, lr⟩ := h1 g1; exact ⟨A', c', e, lr.below hb⟩), (fun g1 => by obtain e := h2 g1; exact e), (fun g1 => ⟨_, _, rfl, hlr⟩), (fun g1 => by obtain ⟨f1, e⟩ := h4 g1; exact ⟨f1, e⟩), (fun g1 => by obtain ⟨f3, e⟩ := h5 g1; cases f3)⟩
          | 4, _ =>
            intro o ho l xs w1 hl hx hG hi hdep K hK
            obtain rfl := Option.some.inj (ho.symm.trans rfl)
            clear ho
            obtain ⟨l0, l1, l2, l3, l4, l5, rfl⟩ := FN_b l hl
            obtain ⟨x0, x1, x2, x3, x4, x5, rfl⟩ := FN_v xs hx
            obtain rfl : l4 = false := hi
            obtain rfl : l1 = true := hdep 1 (by kernel_rfl)
            obtain rfl : l3 = true := hdep 3 (by kernel_rfl)
            obtain rfl : l0 = true := hdep 0 (by kernel_rfl)
            clear hdep hl hx
            dsimp only [setAll, List.set_cons_zero, List.set_cons_succ] at hK ⊢
            have hf := FN_get w LF a ka kb A B nA cA nB cB bs bt hG
            have hF0 := (hf.2.2.1 rfl)
            clear hf
            cases hF0
            rename_i A' ez23
            cases ez23
            rename_i c' ez24
            cases ez24
            rename_i ez25 lr
            subst ez25
            go_simp
            refine hK.out _ _ ?_
            clear hK K
            have hC := FN_get w LF a ka kb A B nA cA nB cB bs bt hG
            cases hC
            rename_i SD ez26
            cases ez26
            rename_i h0 ez27
            cases ez27
            rename_i h1 ez28
            cases ez28
            rename_i h2 ez29
            cases ez29
            rename_i h3 ez30
            cases ez30
            rename_i h4 h5
            refine FN_mk w LF a ka kb A B nA cA nB cB bs bt ?_
            exact ⟨SD, h0, h1, h2, h3, (fun g1 => ⟨rfl, rfl⟩), h5⟩
          | 5, _ =>
            intro o ho l xs w1 hl hx hG hi hdep K hK
            obtain rfl := Option.some.inj (ho.symm.trans rfl)
            clear ho
            obtain ⟨l0, l1, l2, l3, l4, l5, rfl⟩ := FN_b l hl
            obtain ⟨x0, x1, x2, x3, x4, x5, rfl⟩ := FN_v xs hx
            obtain rfl : l5 = false := hi
            obtain rfl : l3 = true := hdep 3 (by kernel_rfl)
            obtain rfl : l4 = true := hdep 4 (by kernel_rfl)
            obtain rfl : l0 = true := hdep 0 (by kernel_rfl)
            obtain rfl : l1 = true := hdep 1 (by kernel_rfl)
            obtain rfl : l2 = true := hdep 2 (by kernel_rfl)
            clear hdep hl hx
            dsimp only [setAll, List.set_cons_zero, List.set_cons_succ] at hK ⊢
            have hf := FN_get w LF a ka kb A B nA cA nB cB bs bt hG
            have hF0 := (hf.2.2.2.2.1 rfl)
            clear hf
            cases hF0
            rename_i A' ez31
            cases ez31
            rename_i c' ez32
            cases ez32
            rename_i ez33 lr
            subst ez33
            go_simp
            refine hK.out _ _ ?_
            clear hK K
            have hC := FN_get w LF a ka kb A B nA cA nB cB bs bt hG
            cases hC
            rename_i SD ez34
            cases ez34
            rename_i h0 ez35
            cases ez35
            rename_i h1 ez36
            cases ez36
            rename_i h2 ez37
            cases ez37
            rename_i h3 ez38
            cases ez38
            rename_i h4 h5
            refine FN_mk w LF a ka kb A B nA cA nB cB bs bt ?_
            exact ⟨SD, h0, h1, h2, h3, h4, (fun g1 => ⟨rfl, rfl⟩)⟩
          | k + 6, h => exact absurd h (by omega)
        · obtain ⟨x0, x1, x2, x3, x4, x5, rfl⟩ := FN_v xs hx
          have hG : FN w LF a ka kb A B nA cA nB cB bs bt [true, true, true, true, true, true] [x0, x1, x2, x3, x4, x5] wf := hG
          have hf := FN_get w LF a ka kb A B nA cA nB cB bs bt hG
          have hF0 := (hf.2.2.2.2.2.2 rfl)
          have hF1 := (hf.2.2.2.2.2.1 rfl)
          have hF2 := (hf.2.2.1 rfl)
          have hF3 := (hf.2.2.2.2.1 rfl)
          have S3 := hf.1
          clear hf
          cases hF0
          rename_i _ ez39
          subst ez39
          cases hF1
          rename_i _ ez40
          subst ez40
          cases hF2
          rename_i Ba ez41
          cases ez41
          rename_i cA' ez42
          cases ez42
          rename_i ez43 hlrA
          subst ez43
          cases hF3
          rename_i Bb ez44
          cases ez44
          rename_i cB' ez45
          cases ez45
          rename_i ez46 hlrB
          subst ez46
          clear hG hx
          dsimp only [setAll, List.set_cons_zero, List.set_cons_succ]
          obtain ⟨bA, oA, _, _, hBa, _, _, _⟩ := hlrA.at_ (i := 0) (rowsB_at (a := a) (bs := bs) (by omega))
          subst hBa
          have HSM0 := Lib.hid (same20_any _ _ (some ⟨bA, oA, none⟩) Bb ka kb cA' cB' wf (rowsB_len _ _ _) (rowsB_len _ _ _) hlrA hlrB (fun r hr => by rw [HRA.out r hr]; omega) (by omega))
          by_cases hab : rowsB a ka bs = rowsB a kb bt
          · rw [decide_eq_true hab] at HSM0
            have HRES := Lib.hid (HOK.out 0 0 0 (.inl ⟨hab, rfl, rfl, rfl⟩))
            clear hab
            go_wp2_with fail
            refine HSM0.out.mono ?_
            rintro e w4 ⟨rfl, hb4⟩
            have S4 : St w [Fact.blk _ _ _, Fact.blk _ _ _, Fact.blk _ _ _] w4 := hLF ▸ (S3.keep hb4)
            obtain ⟨r0, r1⟩ := (S4.blk 2 rfl).cell2
            obtain ⟨f0, f1⟩ := (S4.blk 2 rfl).frozen2
            obtain ⟨q0, q1⟩ := ((S4.blk 2 rfl).set2 (.int .u8 0) (.int .i64 0)).cell2
            go_wp2_with fail
            refine bodyPost_ret (v := .tuple #[.agg #[.int .u8 0, .int .i64 0], .int .i64 0]) (by simp [results, Try.results23, go_sem, q0, q1]) rfl ?_
            exact ⟨0, 0, 0, rfl, HRES.out, below_set2 S4.below (by omega) _ _⟩
          · rw [decide_eq_false hab] at HSM0
            have HNE := Lib.hid hab
            clear hab
            go_wp2_with fail
            refine HSM0.out.mono ?_
            rintro e w4 ⟨rfl, hb4⟩
            clear HSM0
            go_wp2_with fail
            go_loopw [42] (fun i wr => ∃ k : Nat, k ≤ ka ∧ i = .int .i64 k ∧ NoF (rowsB a ka bs) (rowsB a kb bt) k 1 ∧ Below wf.heap.size wf wr) (fun i _ => ka - (intOf i).toNat)
            case atStart => exact ⟨0, Nat.zero_le _, rfl, NoF.zero _ _, hb4⟩
            case round =>
              obtain ⟨k, hk, rfl, hno, hb3r⟩ := hrel
              by_cases hlt : k < ka
              · obtain ⟨_, _, Ar, cr, hBa, hbA, dA00, hrA⟩ := hlrA.at_ (rowsB_at (a := a) (bs := bs) hlt)
                injection hBa with hBa
                injection hBa with hBa1 hBa2
                subst hBa1 hBa2
                obtain ⟨wl, hwl⟩ : ∃ wl, wl = wr.alloc (.cells #[.int .u8 1, .int .u8 2, .int .u8 3] 5) := ⟨_, rfl⟩
                have hb3l : Below wf.heap.size wf wl := by rw [hwl]; exact hb3r.alloc hb3r.size _
                have hkinds : Blk wl wr.heap.size 5 #[.int .u8 1, .int .u8 2, .int .u8 3] := by rw [hwl]; exact Blk.new _ _ _
                have hbA3 : bA < wl.heap.size := Nat.lt_of_lt_of_le hbA hb3l.size
                have dA0 := (hb3l.cell (p := ⟨bA, oA + k, none⟩) hbA).trans dA00
                go_wp2_with fail
                rw [← hwl]
                clear hwl
                go_loopw [47] (fun i wz => ∃ j : Nat, j ≤ 3 ∧ i = .int .i64 j ∧ NoF (rowsB a ka bs) (rowsB a kb bt) k (j + 1) ∧ Below wl.heap.size wl wz) (fun i _ => 3 - (intOf i).toNat)
                case atStart => exact ⟨0, by omega, rfl, hno, Below.refl _ _⟩
                case round =>
                  clear hno
                  obtain ⟨j, hj, rfl, hno, hbz⟩ := hrel
                  have hkz := hkinds.keep hbz
                  rcases (show j = 0 ∨ j = 1 ∨ j = 2 ∨ j = 3 by omega) with rfl | rfl | rfl | rfl
                  · have kz := hkz.cell 0
                    have hbA2 : bA < wl.heap.size := hbA3
                    have dA := (hbz.cell (p := ⟨bA, oA + k, none⟩) hbA3).trans dA0
                    have hlrA3 := hlrA.below (below_then hb3l hbz)
                    have HSP := Lib.hid (spoilt_any (rowsB a ka bs) (some ⟨bA, oA, none⟩) ka cA' k 1 (rowB a bs k) Ar cr _ (rowsB_len _ _ _) (by omega) hlt hlrA3 (hrA.below (below_then hb3l hbz)))
                    have HFA := Lib.hid (show faultAt (rowsB a ka bs) (rowsB a kb bt) 1 k ↔ spoiltL (rowsB a ka bs) 1 k (rowB a bs k) = rowsB a kb bt by unfold faultAt; rw [show liftAt (rowsB a ka bs) (rowsB a kb bt) 1 k = rowB a bs k by unfold liftAt; rw [if_neg (fun h => absurd h.1 (by decide)), rowsB_getD hlt]])
                    have HRN := Lib.hid (spoiltL_rows (q := 1) (lift := (rowB a bs k)) HRA.out (by rw [rowsB_len]; exact hlt) (fun _ => rowB_len (h := ka) HLA.out hlt))
                    go_wp2_with fail
                    refine HSP.out.mono ?_
                    rintro e w5 ⟨A5, n5, c5, rfl, hl5, hn5, hb5⟩
                    have hbz5 := below_then hbz hb5
                    have hln5 : n5 ≤ 1000 := by rw [hn5, spoiltL_len (by rw [rowsB_len]; exact hlt), rowsB_len]; split <;> (try split) <;> omega
                    have HSM := Lib.hid (same20_any _ _ A5 Bb n5 kb c5 cB' w5 hn5.symm (rowsB_len _ _ _) hl5 (hlrB.below (below_then hb3l hbz5)) (fun r hr => by rw [HRN.out r hr]; omega) hln5)
                    clear hn5
                    by_cases hfa : faultAt (rowsB a ka bs) (rowsB a kb bt) 1 k
                    · rw [decide_eq_true (HFA.out.1 hfa)] at HSM
                      have HRES := Lib.hid (HOK.out 1 k 0 (.inr ⟨HNE.out, .inl ⟨k, by rw [rowsB_len]; exact hlt, rfl, by unfold K3; omega, rfl, hfa, hno⟩⟩))
                      clear hfa hno
                      go_wp2_with fail
                      refine HSM.out.mono ?_
                      rintro e w6 ⟨rfl, hb6⟩
                      have S6 : St w [Fact.blk _ _ _, Fact.blk _ _ _, Fact.blk _ _ _] w6 := hLF ▸ (S3.keep (below_then hb3l (below_then hbz5 hb6)))
                      obtain ⟨r0, r1⟩ := (S6.blk 2 rfl).cell2
                      obtain ⟨f0, f1⟩ := (S6.blk 2 rfl).frozen2
                      obtain ⟨q0, q1⟩ := ((S6.blk 2 rfl).set2 (.int .u8 1) (.int .i64 k)).cell2
                      go_wp2_with fail
                      refine bodyPost_ret (v := .tuple #[.agg #[.int .u8 1, .int .i64 k], .int .i64 0]) (by simp [results, Try.results23, go_sem, q0, q1]) rfl ?_
                      exact ⟨1, k, 0, rfl, HRES.out, below_set2 S6.below (by omega) _ _⟩
                    · rw [decide_eq_false (fun h => hfa (HFA.out.2 h))] at HSM
                      have HNX := Lib.hid (hno.next hfa)
                      clear hfa hno
                      go_wp2_with fail
                      refine HSM.out.mono ?_
                      rintro e w6 ⟨rfl, hb6⟩
                      have hbz6 := below_then hbz5 hb6
                      go_wp2_with fail
                      go_roundw
                      case rel => exact ⟨1, by omega, by rfl, HNX.out, hbz6⟩
                      case measure => simp [intOf]
                  · have kz := hkz.cell 1
                    have hbA2 : bA < wl.heap.size := hbA3
                    have dA := (hbz.cell (p := ⟨bA, oA + k, none⟩) hbA3).trans dA0
                    have hlrA3 := hlrA.below (below_then hb3l hbz)
                    have HSP := Lib.hid (spoilt_any (rowsB a ka bs) (some ⟨bA, oA, none⟩) ka cA' k 2 (rowB a bs k) Ar cr _ (rowsB_len _ _ _) (by omega) hlt hlrA3 (hrA.below (below_then hb3l hbz)))
                    have HFA := Lib.hid (show faultAt (rowsB a ka bs) (rowsB a kb bt) 2 k ↔ spoiltL (rowsB a ka bs) 2 k (rowB a bs k) = rowsB a kb bt by unfold faultAt; rw [show liftAt (rowsB a ka bs) (rowsB a kb bt) 2 k = rowB a bs k by unfold liftAt; rw [if_neg (fun h => absurd h.1 (by decide)), rowsB_getD hlt]])
                    have HRN := Lib.hid (spoiltL_rows (q := 2) (lift := (rowB a bs k)) HRA.out (by rw [rowsB_len]; exact hlt) (fun _ => rowB_len (h := ka) HLA.out hlt))
                    go_wp2_with fail
                    refine HSP.out.mono ?_
                    rintro e w5 ⟨A5, n5, c5, rfl, hl5, hn5, hb5⟩
                    have hbz5 := below_then hbz hb5
                    have hln5 : n5 ≤ 1000 := by rw [hn5, spoiltL_len (by rw [rowsB_len]; exact hlt), rowsB_len]; split <;> (try split) <;> omega
                    have HSM := Lib.hid (same20_any _ _ A5 Bb n5 kb c5 cB' w5 hn5.symm (rowsB_len _ _ _) hl5 (hlrB.below (below_then hb3l hbz5)) (fun r hr => by rw [HRN.out r hr]; omega) hln5)
                    clear hn5
                    by_cases hfa : faultAt (rowsB a ka bs) (rowsB a kb bt) 2 k
                    · rw [decide_eq_true (HFA.out.1 hfa)] at HSM
                      have HRES := Lib.hid (HOK.out 2 k 0 (.inr ⟨HNE.out, .inl ⟨k, by rw [rowsB_len]; exact hlt, rfl, by unfold K3; omega, rfl, hfa, hno⟩⟩))
                      clear hfa hno
                      go_wp2_with fail
                      refine HSM.out.mono ?_
                      rintro e w6 ⟨rfl, hb6⟩
                      have S6 : St w [Fact.blk _ _ _, Fact.blk _ _ _, Fact.blk _ _ _] w6 := hLF ▸ (S3.keep (below_then hb3l (below_then hbz5 hb6)))
                      obtain ⟨r0, r1⟩ := (S6.blk 2 rfl).cell2
                      obtain ⟨f0, f1⟩ := (S6.blk 2 rfl).frozen2
                      obtain ⟨q0, q1⟩ := ((S6.blk 2 rfl).set2 (.int .u8 2) (.int .i64 k)).cell2
                      go_wp2_with fail
                      refine bodyPost_ret (v := .tuple #[.agg #[.int .u8 2, .int .i64 k], .int .i64 0]) (by simp [results, Try.results23, go_sem, q0, q1]) rfl ?_
                      exact ⟨2, k, 0, rfl, HRES.out, below_set2 S6.below (by omega) _ _⟩
                    · rw [decide_eq_false (fun h => hfa (HFA.out.2 h))] at HSM
                      have HNX := Lib.hid (hno.next hfa)
                      clear hfa hno
                      go_wp2_with fail
                      refine HSM.out.mono ?_
                      rintro e w6 ⟨rfl, hb6⟩
                      have hbz6 := below_then hbz5 hb6
                      go_wp2_with fail
                      go_roundw
                      case rel => exact ⟨2, by omega, by rfl, HNX.out, hbz6⟩
                      case measure => simp [intOf]
                  · have kz := hkz.cell 2
                    have hbA2 : bA < wl.heap.size := hbA3
                    have dA := (hbz.cell (p := ⟨bA, oA + k, none⟩) hbA3).trans dA0
                    have hlrA3 := hlrA.below (below_then hb3l hbz)
                    by_cases hkb : k < kb
                    · obtain ⟨bB, oB, Br, crB, hBB, hbB, dB0, hrB⟩ := hlrB.at_ (rowsB_at (a := a) (bs := bt) hkb)
                      subst hBB
                      have dB := ((below_then hb3l hbz).cell (p := ⟨bB, oB + k, none⟩) hbB).trans dB0
                      have HSP := Lib.hid (spoilt_any (rowsB a ka bs) (some ⟨bA, oA, none⟩) ka cA' k 3 (rowB a bt k) Br crB _ (rowsB_len _ _ _) (by omega) hlt hlrA3 (hrB.below (below_then hb3l hbz)))
                      have HFA := Lib.hid (show faultAt (rowsB a ka bs) (rowsB a kb bt) 3 k ↔ spoiltL (rowsB a ka bs) 3 k (rowB a bt k) = rowsB a kb bt by unfold faultAt; rw [show liftAt (rowsB a ka bs) (rowsB a kb bt) 3 k = rowB a bt k by unfold liftAt; rw [if_pos ⟨rfl, by rw [rowsB_len]; exact hkb⟩, rowsB_getD hkb]])
                      have HRN := Lib.hid (spoiltL_rows (q := 3) (lift := (rowB a bt k)) HRA.out (by rw [rowsB_len]; exact hlt) (fun _ => rowB_len (h := kb) HLB.out hkb))
                      go_wp2_with fail
                      refine HSP.out.mono ?_
                      rintro e w5 ⟨A5, n5, c5, rfl, hl5, hn5, hb5⟩
                      have hbz5 := below_then hbz hb5
                      have hln5 : n5 ≤ 1000 := by rw [hn5, spoiltL_len (by rw [rowsB_len]; exact hlt), rowsB_len]; split <;> (try split) <;> omega
                      have HSM := Lib.hid (same20_any _ _ A5 (some ⟨bB, oB, none⟩) n5 kb c5 cB' w5 hn5.symm (rowsB_len _ _ _) hl5 (hlrB.below (below_then hb3l hbz5)) (fun r hr => by rw [HRN.out r hr]; omega) hln5)
                      clear hn5
                      by_cases hfa : faultAt (rowsB a ka bs) (rowsB a kb bt) 3 k
                      · rw [decide_eq_true (HFA.out.1 hfa)] at HSM
                        have HRES := Lib.hid (HOK.out 3 k 0 (.inr ⟨HNE.out, .inl ⟨k, by rw [rowsB_len]; exact hlt, rfl, by unfold K3; omega, rfl, hfa, hno⟩⟩))
                        clear hfa hno
                        go_wp2_with fail
                        refine HSM.out.mono ?_
                        rintro e w6 ⟨rfl, hb6⟩
                        have S6 : St w [Fact.blk _ _ _, Fact.blk _ _ _, Fact.blk _ _ _] w6 := hLF ▸ (S3.keep (below_then hb3l (below_then hbz5 hb6)))
                        obtain ⟨r0, r1⟩ := (S6.blk 2 rfl).cell2
                        obtain ⟨f0, f1⟩ := (S6.blk 2 rfl).frozen2
                        obtain ⟨q0, q1⟩ := ((S6.blk 2 rfl).set2 (.int .u8 3) (.int .i64 k)).cell2
                        go_wp2_with fail
                        refine bodyPost_ret (v := .tuple #[.agg #[.int .u8 3, .int .i64 k], .int .i64 0]) (by simp [results, Try.results23, go_sem, q0, q1]) rfl ?_
                        exact ⟨3, k, 0, rfl, HRES.out, below_set2 S6.below (by omega) _ _⟩
                      · rw [decide_eq_false (fun h => hfa (HFA.out.2 h))] at HSM
                        have HNX := Lib.hid (hno.next hfa)
                        clear hfa hno
                        go_wp2_with fail
                        refine HSM.out.mono ?_
                        rintro e w6 ⟨rfl, hb6⟩
                        have hbz6 := below_then hbz5 hb6
                        go_wp2_with fail
                        go_roundw
                        case rel => exact ⟨3, by omega, by rfl, HNX.out, hbz6⟩
                        case measure => simp [intOf]
                    · have HSP := Lib.hid (spoilt_any (rowsB a ka bs) (some ⟨bA, oA, none⟩) ka cA' k 3 (rowB a bs k) Ar cr _ (rowsB_len _ _ _) (by omega) hlt hlrA3 (hrA.below (below_then hb3l hbz)))
                      have HFA := Lib.hid (show faultAt (rowsB a ka bs) (rowsB a kb bt) 3 k ↔ spoiltL (rowsB a ka bs) 3 k (rowB a bs k) = rowsB a kb bt by unfold faultAt; rw [show liftAt (rowsB a ka bs) (rowsB a kb bt) 3 k = rowB a bs k by unfold liftAt; rw [if_neg (fun h => hkb (by have h2 := h.2; rw [rowsB_len] at h2; exact h2)), rowsB_getD hlt]])
                      have HRN := Lib.hid (spoiltL_rows (q := 3) (lift := (rowB a bs k)) HRA.out (by rw [rowsB_len]; exact hlt) (fun _ => rowB_len (h := ka) HLA.out hlt))
                      go_wp2_with fail
                      refine HSP.out.mono ?_
                      rintro e w5 ⟨A5, n5, c5, rfl, hl5, hn5, hb5⟩
                      have hbz5 := below_then hbz hb5
                      have hln5 : n5 ≤ 1000 := by rw [hn5, spoiltL_len (by rw [rowsB_len]; exact hlt), rowsB_len]; split <;> (try split) <;> omega
                      have HSM := Lib.hid (same20_any _ _ A5 Bb n5 kb c5 cB' w5 hn5.symm (rowsB_len _ _ _) hl5 (hlrB.below (below_then hb3l hbz5)) (fun r hr => by rw [HRN.out r hr]; omega) hln5)
                      clear hn5
                      by_cases hfa : faultAt (rowsB a ka bs) (rowsB a kb bt) 3 k
                      · rw [decide_eq_true (HFA.out.1 hfa)] at HSM
                        have HRES := Lib.hid (HOK.out 3 k 0 (.inr ⟨HNE.out, .inl ⟨k, by rw [rowsB_len]; exact hlt, rfl, by unfold K3; omega, rfl, hfa, hno⟩⟩))
                        clear hfa hno
                        go_wp2_with fail
                        refine HSM.out.mono ?_
                        rintro e w6 ⟨rfl, hb6⟩
                        have S6 : St w [Fact.blk _ _ _, Fact.blk _ _ _, Fact.blk _ _ _] w6 := hLF ▸ (S3.keep (below_then hb3l (below_then hbz5 hb6)))
                        obtain ⟨r0, r1⟩ := (S6.blk 2 rfl).cell2
                        obtain ⟨f0, f1⟩ := (S6.blk 2 rfl).frozen2
                        obtain ⟨q0, q1⟩ := ((S6.blk 2 rfl).set2 (.int .u8 3) (.int .i64 k)).cell2
                        go_wp2_with fail
                        refine bodyPost_ret (v := .tuple #[.agg #[.int .u8 3, .int .i64 k], .int .i64 0]) (by simp [results, Try.results23, go_sem, q0, q1]) rfl ?_
                        exact ⟨3, k, 0, rfl, HRES.out, below_set2 S6.below (by omega) _ _⟩
                      · rw [decide_eq_false (fun h => hfa (HFA.out.2 h))] at HSM
                        have HNX := Lib.hid (hno.next hfa)
                        clear hfa hno
                        go_wp2_with fail
                        refine HSM.out.mono ?_
                        rintro e w6 ⟨rfl, hb6⟩
                        have hbz6 := below_then hbz5 hb6
                        go_wp2_with fail
                        go_roundw
                        case rel => exact ⟨3, by omega, by rfl, HNX.out, hbz6⟩
                        case measure => simp [intOf]
                  · have HNX := Lib.hid (NoF.row hno)
                    go_wp2_with fail
                    go_roundw
                    case rel => exact ⟨k + 1, by omega, by go_num, HNX.out, below_then hb3l hbz⟩
                    case measure => simp [intOf]; omega
              · obtain rfl : k = ka := by omega
                have HRES := Lib.hid (HOK.out 0 0 6 (.inr ⟨HNE.out, .inr ⟨rfl, rfl, rfl, by rw [rowsB_len]; exact hno⟩⟩))
                have S4 : St w [Fact.blk _ _ _, Fact.blk _ _ _, Fact.blk _ _ _] wr := hLF ▸ (S3.keep hb3r)
                obtain ⟨r0, r1⟩ := (S4.blk 2 rfl).cell2
                obtain ⟨f0, f1⟩ := (S4.blk 2 rfl).frozen2
                obtain ⟨q0, q1⟩ := ((S4.blk 2 rfl).set2 (.int .u8 0) (.int .i64 0)).cell2
                go_wp2_with fail
                refine bodyPost_ret (v := .tuple #[.agg #[.int .u8 0, .int .i64 0], .int .i64 6]) (by simp [results, Try.results23, go_sem, q0, q1]) rfl ?_
                exact ⟨0, 0, 6, rfl, HRES.out, below_set2 S4.below (by omega) _ _⟩
      · have hwb : (W != W2) = true := by simpa using hww
        have HRES := Lib.hid (FindA.bad3 (W := W) (H := H) (bs := bs) (W2 := W2) (H2 := H2) (bt := bt) (by rw [hl]; exact hk) (by rw [hl2]; exact hk2) hww)
        clear hr hr2 hl hl2 hk hk2 hww
        generalize chkP W H nA = K at *
        generalize chkP W2 H2 nB = K2 at *
        go_enter Try.func23, Try.ntmps23
        go_wp2_with fail
        refine (HP.out _).mono ?_
        rintro e w1 ⟨rfl, hb1⟩
        have S1 := S0.keep hb1
        clear c0 c1 c2
        obtain ⟨d0, d1, d2⟩ := (S1.blk 1 rfl).cell3
        go_wp2_with fail
        refine (HP2.out _).mono ?_
        rintro e w2 ⟨rfl, hb2⟩
        have S2 := S1.keep hb2
        clear d0 d1 d2
        obtain ⟨c0, c1, c2⟩ := (S2.blk 0 rfl).cell3
        obtain ⟨d0, d1, d2⟩ := (S2.blk 1 rfl).cell3
        obtain ⟨r0, r1⟩ := (S2.blk 2 rfl).cell2
        obtain ⟨f0, f1⟩ := (S2.blk 2 rfl).frozen2
        obtain ⟨q0, q1⟩ := ((S2.blk 2 rfl).set2 (.int .u8 0) (.int .i64 0)).cell2
        go_wp2_with fail
        refine bodyPost_ret (v := .tuple #[.agg #[.int .u8 0, .int .i64 0], .int .i64 26]) (by simp [results, Try.results23, go_sem, q0, q1]) rfl ?_
        exact ⟨0, 0, 26, rfl, HRES.out, below_set2 S2.below (by omega) _ _⟩
    · have hkb2 : (chkP W2 H2 nB != 0) = true := by simpa using hk2
      have HRES := Lib.hid (FindA.bad2 (W := W) (H := H) (bs := bs) (W2 := W2) (H2 := H2) (bt := bt) (by rw [hl]; exact hk) (by rw [hl2]; exact hk2))
      rw [hl2] at HRES
      clear hr hr2 hl hl2 hk hk2
      generalize chkP W H nA = K at *
      generalize chkP W2 H2 nB = K2 at *
      go_enter Try.func23, Try.ntmps23
      go_wp2_with fail
      refine (HP.out _).mono ?_
      rintro e w1 ⟨rfl, hb1⟩
      have S1 := S0.keep hb1
      clear c0 c1 c2
      obtain ⟨d0, d1, d2⟩ := (S1.blk 1 rfl).cell3
      go_wp2_with fail
      refine (HP2.out _).mono ?_
      rintro e w2 ⟨rfl, hb2⟩
      have S2 := S1.keep hb2
      clear d0 d1 d2
      obtain ⟨r0, r1⟩ := (S2.blk 2 rfl).cell2
      obtain ⟨f0, f1⟩ := (S2.blk 2 rfl).frozen2
      obtain ⟨q0, q1⟩ := ((S2.blk 2 rfl).set2 (.int .u8 0) (.int .i64 0)).cell2
      go_wp2_with fail
      refine bodyPost_ret (v := .tuple #[.agg #[.int .u8 0, .int .i64 0], .int .i64 K2]) (by simp [results, Try.results23, go_sem, q0, q1]) rfl ?_
      exact ⟨0, 0, K2, rfl, HRES.out, below_set2 S2.below (by omega) _ _⟩
  · have hkb : (chkP W H nA != 0) = true := by simpa using hk
    have HRES := Lib.hid (FindA.bad1 (W := W) (H := H) (bs := bs) (W2 := W2) (H2 := H2) (bt := bt) (by rw [hl]; exact hk))
    rw [hl] at HRES
    clear hr hr2 hl hl2 hk
    generalize chkP W H nA = K at *
    go_enter Try.func23, Try.ntmps23
    go_wp2_with fail
    refine (HP.out _).mono ?_
    rintro e w1 ⟨rfl, hb1⟩
    have S1 := S0.keep hb1
    clear c0 c1 c2
    obtain ⟨r0, r1⟩ := (S1.blk 2 rfl).cell2
    obtain ⟨f0, f1⟩ := (S1.blk 2 rfl).frozen2
    obtain ⟨q0, q1⟩ := ((S1.blk 2 rfl).set2 (.int .u8 0) (.int .i64 0)).cell2
    go_wp2_with fail
    refine bodyPost_ret (v := .tuple #[.agg #[.int .u8 0, .int .i64 0], .int .i64 K]) (by simp [results, Try.results23, go_sem, q0, q1]) rfl ?_
    exact ⟨0, 0, K, rfl, HRES.out, below_set2 S1.below (by omega) _ _⟩
end Go.Proofs.Ytfjdlbilnoojkaa
