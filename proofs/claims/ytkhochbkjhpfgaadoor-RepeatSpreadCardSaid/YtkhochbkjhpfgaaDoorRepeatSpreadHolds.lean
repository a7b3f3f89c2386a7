/- The law RepeatSpread: the least cell and rectangle make the cloth -/
import Derived.Test.YtkhochbkjhpfgaaDoorRows
import Derived.Test.YtkhochbkjhpfgaaDoorTie
import Derived.Test.YtkhochbkjhpfgaaDoorCards
import Derived.Test.YtkhochbkjhpfgaaDoorArgs
import Derived.Test.YtkhochbkjhpfgaaDoorDLift
import Derived.SevenTiedAt
import Derived.Stop.Joined
import Derived.Test.YtkhochbkjhpfgaaDoorLSprd6
namespace Go.Proofs.YtkhochbkjhpfgaaDoor
open Go.RowKit Go.ChangeShapes Go.WideShapes Go.ChangeAt

set_option maxHeartbeats 1000000 in
set_option maxRecDepth 100000 in
theorem spread6_walk (g : Gd) (A0 : Option Addr) (n c : Nat) (w : World) (hr : Rd w A0 n (g.bits.map Value.bool)) (hc : n ≤ c) :
    Calls Tryd.prog 5 #[.agg #[.int .i64 g.w, .int .i64 g.h, .slice A0 n c]] w fun e w' => e = .returned (.bool true) ∧ Below w.heap.size w w' := by
  have hl : g.bits.length = n := by simpa using hr.len
  cases hv : valid6B g with
  | true =>
    unfold valid6B at hv
    rw [decide_eq_true_eq] at hv
    obtain ⟨W, H, bs⟩ := g
    obtain ⟨a, b, e1, e2, ha1, ha, hb1, hb, hbl⟩ := chk_zero hv.2
    simp only at e1 e2 hbl hl hr
    subst e1 e2
    have hv1 : bs.length ≤ 100 := hv.1
    exact spread6_main a b n c bs A0 w ha1 hb1 ha hb (by omega) (by omega) hc hv.2 hr
  | false =>
    have HV := Lib.hid (fun A n c W h => valid6_any g A n c W h)
    have hL := Lib.hid hl
    rw [hv] at HV
    clear hl hv
    have S0 := (St.start w).box #[.int .i64 g.w, .int .i64 g.h, .slice A0 n c] 33
    simp only [List.nil_append] at S0
    obtain ⟨d0, d1, d2⟩ := (S0.blk 0 rfl).cell3
    go_enter Tryd.func5, Tryd.ntmps5
    go_wp2_with fail
    refine (HV.out _ _ _ _ hL.out).mono ?_
    rintro e w1 ⟨rfl, hb1⟩
    have S1 := S0.keep hb1
    clear d0 d1 d2
    go_wp2_with fail
    refine (alive_any _).mono ?_
    rintro e w2 ⟨rfl, hb2⟩
    go_wp2_with fail
    go_ret
    exact ⟨rfl, (S1.keep hb2).below⟩

theorem own_knob : ownKnob Tryd.prog.godebug = none := by kernel_rfl
theorem laid_out : laidOutB Tryd.prog = true := by kernel_rfl

set_option maxRecDepth 100000 in
theorem the_law {H : Type} (enc : TypeId × Value → H) : LawWalk Tryd.prog 5 Tryd.f5.params.toList enc := by
  intro W base args ds ps hval hA
  rw [Tryd.params5] at hA hval
  obtain ⟨v0, vs0, d0, ds0, p0, q0, hargs, rfl, rfl, h0, r0⟩ := trodAll_cons hA
  obtain ⟨rfl, rfl, rfl⟩ := trodAll_nil r0
  obtain rfl : args = #[v0] := by cases args; simp_all
  obtain ⟨g0, A0, n0, c0, rfl, hr0, hn0, hc0, _⟩ := open_grid (hval 0 _ v0 rfl rfl) h0
  exact spread6_walk g0 A0 n0 c0 W hr0 hn0

set_option maxRecDepth 100000 in
theorem the_lift (os : Os) (started : os.Started) (H : Type) (enc : TypeId × Value → H) :
    ReturnsInHanded {} Tryd.checked os 5 .any (fun w args => (Rows.repeatSpreadSpec.pre enc Tryd.prog Tryd.f5 Rows.repeatSpreadRow.domain false w args ∧ laidMetH Tryd.prog Rows.repeatSpreadRow.laid w) ∧ sizedMet enc Tryd.prog Tryd.f5 (OpenSpec.ofChange Rows.repeatSpreadSpec) false w args)
      (Rows.repeatSpreadSpec.post enc Tryd.prog Tryd.f5 false true false false) :=
  law_laid (C := Tryd.checked) (s := Rows.repeatSpreadSpec) (tb := 4) (X := fun w _ => laidMetH Tryd.prog Rows.repeatSpreadRow.laid w) (fun _ _ _ hh h => h.of_heap hh) own_knob started (by kernel_rfl) Tryd.func5
    (ChangeSpec.witness_shaped (enc := enc) (C := Tryd.checked) (os := os) (X := fun w _ => laidMetH Tryd.prog Rows.repeatSpreadRow.laid w) false (World.laidAll Tryd.prog os Rows.repeatSpreadRow.laid) #[.agg #[.int .i64 0, .int .i64 0, .slice none 0 0]] 8 (World.laidAll_os _ _ _)
      (World.shaped_of_ZipB (by kernel_rfl) (by kernel_rfl)) (by kernel_rfl) (by kernel_rfl) (by kernel_rfl)
      (by rw [MakeChecks.laidMetH_plain _ _ _ (by kernel_rfl)]; exact laidMet_laidAll _ (by kernel_rfl) (by kernel_rfl)))
    rfl (fun ds h => by match ds, h with | [_], _ => rfl) rfl Tryd.underlying4 laid_out (by rw [Tryd.params5]; intro t ht; simp at ht; first | (subst ht; exact ⟨by kernel_rfl, of_decide_eq_true (by kernel_rfl)⟩)) (the_law enc)

theorem repeatSpread_row_holds : Rows.RepeatSpreadSaid :=
  OpenClaim.holds_of_wide 5 Tryd.f5 rfl rfl rfl rfl rfl rfl rfl ⟨rfl, rfl, rfl, rfl, rfl⟩ rfl rfl rfl rfl rfl (by kernel_rfl) Tryd.func5 (by kernel_rfl)
    (of_decide_eq_true (by kernel_rfl)) (by unfold Func.isWrapper; rw [if_neg (of_decide_eq_false (by kernel_rfl))]; exact ⟨rfl, rfl⟩)
    (fun os started H enc _ => the_lift os started H enc)
theorem repeatSpread_holds : Rows.RepeatSpreadCardSaid :=
  Claim7.holds_tied_plain_at .later [] [.data, .pinned] true (true, "6e5bb9e503933d6140a0b7f4130deb832e1d48d0097e4cb4b54d965b77228106") false repeatSpread_row_holds (fun _ h => by cases h) (by kernel_rfl) (fun _ h => by cases h) repeatSpread_row_tie rfl ⟨rfl, rfl⟩ (by kernel_rfl) rfl
    (fun f fn hf hfn => by
      obtain rfl : f = 5 := Option.some.inj ((show Tryd.prog.funcNamed Rows.repeatSpreadRow.func = some 5 by kernel_rfl).symm.trans hf) |>.symm
      obtain rfl : fn = Tryd.f5 := (Option.some.inj (Tryd.func5.symm.trans hfn)).symm
      exact ⟨by kernel_rfl, fun j t ht => by
        rw [Tryd.params5] at ht
        have hm : t ∈ [33] := by simpa using Array.mem_of_getElem? ht
        have hall : ([33].all fun u => !Tryd.prog.wantsStandIn u) = true := by kernel_rfl
        exact (show Tryd.prog.wantsStandIn t = false by simpa using List.all_eq_true.1 hall t hm)⟩)
    (by kernel_rfl)
#print axioms repeatSpread_holds
end Go.Proofs.YtkhochbkjhpfgaaDoor
