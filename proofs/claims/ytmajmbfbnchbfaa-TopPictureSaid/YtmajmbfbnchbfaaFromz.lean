/- reduce's search: from a list of groups on, all lists that go on with it. -/
import Derived.Test.YtmajmbfbnchbfaaSrchz
import Derived.Test.YtmajmbfbnchbfaaChangez
import Derived.Test.YtmajmbfbnchbfaaMg7z
import Derived.Lib.SliceRun
namespace Go.Proofs.Ytmajmbfbnchbfaa
open Go.RowKit

/-- What from leaves behind: the list as it was, and a best one. -/
def FromR (w : World) (sb a h : Nat) (bs : List Bool) (A : Option Addr) (c : Nat) (k : Int) (n : Nat) (l : List Int) (e : Ending) (u' : World) : Prop :=
  e = .returned (.tuple #[]) ∧ ∃ vl vb cst, vb ≠ .slice none 0 0 ∧ (0 < n → ∃ g cap, vl = .slice (some ⟨g, 0, none⟩) n cap ∧ n ≤ cap) ∧ SS w sb a h bs A c k vl n l vb cst u'
set_option maxHeartbeats 4000000 in
set_option maxRecDepth 100000 in
theorem from_leaf (a h sb : Nat) (bs : List Bool) (bA oA c : Nat) (k : Int) (n : Int) (vl : Value) (l : List Int) (vb : Value) (cst : Int) (w u : World) (ha1 : 1 ≤ a) (ha : a ≤ 64) (hh1 : 1 ≤ h) (hh : h ≤ 64) (hbs : bs.length = h * a) (hr : Rd w (some ⟨bA, oA, none⟩) (h * a) (bs.map Value.bool)) (hnc : h * a ≤ c) (hll : l.length = a)
    (H : SS w sb a h bs (some ⟨bA, oA, none⟩) c k vl a l vb cst u) :
    Calls Try.prog 41 #[.pointer (some ⟨sb, 0, none⟩), .int .i64 n] u (FromR w sb a h bs (some ⟨bA, oA, none⟩) c k a l) := by
  obtain ⟨g, cl, rfl⟩ : ∃ g cl, vl = .slice (some ⟨g, 0, none⟩) a cl := by
    rcases H.ol.2 with ⟨_, h0⟩ | ⟨g, cap, cur, hv, _⟩
    · omega
    · exact ⟨g, cap, hv⟩
  have HR := Lib.hid (fun u' (hb : Below w.heap.size w u') => hr.below hb)
  have hrl : Rd u (some ⟨g, 0, none⟩) a (l.map (Value.int .i64)) := rd_of_own H.ol
  have HC := Lib.hid (fun u' (hb : Below u.heap.size u u') => change_any a h bs l (some ⟨bA, oA, none⟩) (h * a) c g 0 cl u' ha1 ha hh1 hh hbs (hr.below (below_then H.bel hb)) hnc hll (hrl.below hb) (fun x hx => by have := H.good x hx; omega))
  have HCL := Lib.hid (fun u' (hb : Below u.heap.size u u') => clone_any ⟨g, 0, none⟩ a cl l u' (hrl.below hb) (by omega))
  have hcst : vb = .slice none 0 0 ∨ ∃ g c, vb = .slice (some ⟨g, 0, none⟩) a c := by
    obtain ⟨nb, bl, _, h1 | h1⟩ := H.ob
    · exact .inl h1.1
    · exact .inr h1.1
  have B0 := H.blk
  have b0 := B0.cell 0
  have b1 := B0.cell 1
  have b2 := B0.cell 2
  have b3 := B0.cell 3
  have b4 := B0.cell 4
  have b5 := B0.cell 5
  have b6 := B0.cell 6
  simp only [srC, List.getElem?_toArray, List.getElem?_cons_zero, List.getElem?_cons_succ] at b0 b1 b2 b3 b4 b5 b6
  have hd0 : decide ((a : Int) = a) = true := decide_eq_true rfl
  have hnil := fun w (a : Option Addr) n c => Lib.run_eql_slice_nil (P := Try.prog) w 22 3 a n c 0 0 Try.underlying22
  go_enter Try.func41, Try.ntmps41
  go_wp2_with fail
  go_region
  go_wp2_with fail
  have B1 := B0.alloc (.cells #[.int .i64 0, .int .i64 0, .slice none 0 0] 25)
  have d0 := B1.cell 0
  have d1 := B1.cell 1
  have d2 := B1.cell 2
  have d4 := B1.cell 4
  simp only [srC, List.getElem?_toArray, List.getElem?_cons_zero, List.getElem?_cons_succ] at d0 d1 d2 d4
  have hbu : Below u.heap.size u u.drew.drew := (Below.refl _ _).drew.drew
  have hbua : Below u.heap.size u (u.drew.drew.alloc (.cells #[.int .i64 0, .int .i64 0, .slice none 0 0] 25)) := hbu.alloc (Nat.le_refl _) _
  go_region_law (first
    | (go_simp
       go_at_call 37
       refine (HC.out _ hbu).mono ?_
       rintro e w2 ⟨A2, n2, c2, rfl, hown2, hb2⟩
       have hbx := below_then hbu hb2)
    | (go_simp
       go_at_call 37
       refine (HC.out _ hbua).mono ?_
       rintro e w2 ⟨A2, n2, c2, rfl, hown2, hb2⟩
       have hbx := below_then hbua hb2
       have hz : Blk w2 u.heap.size 25 #[.int .i64 0, .int .i64 0, .slice none 0 0] := (Blk.new u.drew.drew 25 #[.int .i64 0, .int .i64 0, .slice none 0 0]).keep hb2
       obtain ⟨f0, f1, f2⟩ := hz.frozen3
       obtain ⟨z0, z1, z2⟩ := hz.cell3)
    | fail)
  all_goals
    first
    | (have hz0 := hz
       have hbc := below_set3 hbx (Nat.le_refl _) (.int .i64 a) (.int .i64 h) (.slice A2 n2 c2)
       clear hz hz0 f0 f1 f2 z0 z1 z2)
    | have hbc := hbx.alloc hbx.size (.cells #[.int .i64 a, .int .i64 h, .slice A2 n2 c2] 25)
  all_goals
    have H3 := H.keep hbc
    clear b0 b1 b2 b3 b4 b5 b6 d0 d1 d2 d4 hown2 hb2 hbx hbu hbua B0 B1 HC HR hr hrl H hd0
    have B0 := H3.blk
    have b0 := B0.cell 0
    have b1 := B0.cell 1
    have b2 := B0.cell 2
    have b3 := B0.cell 3
    have b4 := B0.cell 4
    have b5 := B0.cell 5
    have b6 := B0.cell 6
    simp only [srC, List.getElem?_toArray, List.getElem?_cons_zero, List.getElem?_cons_succ] at b0 b1 b2 b3 b4 b5 b6
    have hcc := own_cap H3.ol
    by_cases hbest : vb = .slice none 0 0 ∨ (costL a h bs l : Int) < cst
    · have HB := Lib.hid (fun u' g' cap hb ho => SS.best (u' := u') (g := g') (cap := cap) H3 hll hb ho)
      rcases hcst with rfl | ⟨gb, cb, rfl⟩
      · clear hbest
        go_wp2_with fail
        refine (HCL.out _ hbc).mono ?_
        rintro e w5 ⟨A5, c5, rfl, hown5, hb5⟩
        obtain ⟨g5, rfl⟩ := own_addr hown5 ha1
        replace HB := Lib.hid (HB.out _ _ _ hb5 hown5)
        have B5 := B0.keep hb5
        have e0 := B5.cell 5
        have e1 := B5.cell 6
        have e2 := B5.frozen 5
        have e3 := B5.frozen 6
        simp only [srC, List.getElem?_toArray, List.getElem?_cons_zero, List.getElem?_cons_succ] at e0 e1
        clear b0 b1 b2 b3 b4 b5 b6 B0 H3 hown5 hbc HCL
        go_wp2_with fail
        refine bodyPost_ret (v := .tuple #[]) (by simp [results, Try.results41, go_sem]) rfl ?_
        exact ⟨rfl, _, _, _, by simp, fun _ => ⟨_, _, rfl, hcc⟩, HB.out⟩
      · have hd1 : decide ((costL a h bs l : Int) < cst) = true := decide_eq_true (hbest.resolve_left (by simp))
        clear hbest
        go_wp2_with fail
        refine (HCL.out _ hbc).mono ?_
        rintro e w5 ⟨A5, c5, rfl, hown5, hb5⟩
        obtain ⟨g5, rfl⟩ := own_addr hown5 ha1
        replace HB := Lib.hid (HB.out _ _ _ hb5 hown5)
        have B5 := B0.keep hb5
        have e0 := B5.cell 5
        have e1 := B5.cell 6
        have e2 := B5.frozen 5
        have e3 := B5.frozen 6
        simp only [srC, List.getElem?_toArray, List.getElem?_cons_zero, List.getElem?_cons_succ] at e0 e1
        clear b0 b1 b2 b3 b4 b5 b6 B0 H3 hown5 hbc HCL
        go_wp2_with fail
        refine bodyPost_ret (v := .tuple #[]) (by simp [results, Try.results41, go_sem]) rfl ?_
        exact ⟨rfl, _, _, _, by simp, fun _ => ⟨_, _, rfl, hcc⟩, HB.out⟩
    · rcases hcst with rfl | ⟨gb, cb, rfl⟩
      · exact absurd (.inl rfl) hbest
      · have hcs : ¬ (costL a h bs l : Int) < cst := fun h => hbest (.inr h)
        have hd1 : decide ((costL a h bs l : Int) < cst) = false := decide_eq_false hcs
        clear hbest
        go_wp2_with fail
        refine bodyPost_ret (v := .tuple #[]) (by simp [results, Try.results41, go_sem]) rfl ?_
        exact ⟨rfl, _, _, _, by simp, fun _ => ⟨_, _, rfl, hcc⟩, H3⟩
end Go.Proofs.Ytmajmbfbnchbfaa
