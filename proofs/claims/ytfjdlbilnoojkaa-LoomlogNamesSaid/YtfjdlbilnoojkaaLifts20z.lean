/- The law's lifts(l ...int): a grid of two shafts. -/
import Derived.Test.YtfjdlbilnoojkaaMg6z
import Derived.Test.YtfjdlbilnoojkaaWovenz
import Derived.Test.YtfjdlbilnoojkaaInvRz
import Derived.Test.YtfjdlbilnoojkaaTwin20z
namespace Go.Proofs.Ytfjdlbilnoojkaa
open Go.RowKit

structure LfB (w : World) (n c : Nat) (old v : Value) (m : Nat) (bits : List Bool) (u : World) : Prop where
  below : Below w.heap.size w u
  res : Blk u w.heap.size 25 #[.int .i64 0, .int .i64 0, .slice none 0 0]
  grid : Blk u (w.heap.size + 1) 25 #[.int .i64 2, .int .i64 (n : Int), old]
  own : u.ownsRow w.heap.size 4 1 v m (bits.map Value.bool)
/-- While lifts runs: its result, its grid and the grid's row. -/
def LfA (w : World) (n : Nat) (v : Value) (m : Nat) (bits : List Bool) (u : World) : Prop := LfB w n 0 v v m bits u
theorem LfB.keep {w : World} {n c m : Nat} {old : Value} {A : Option Addr} {cp : Nat} {bits : List Bool} {u u' : World} (h : LfB w n c old (.slice A m cp) m bits u) (hb : Below u.heap.size u u') : LfB w n c old (.slice A m cp) m bits u' :=
  ⟨below_then h.below hb, h.res.keep hb, h.grid.keep hb, own_below h.own hb⟩
theorem LfA.keep {w : World} {n m : Nat} {A : Option Addr} {cp : Nat} {bits : List Bool} {u u' : World} (h : LfA w n (.slice A m cp) m bits u) (hb : Below u.heap.size u u') : LfA w n (.slice A m cp) m bits u' := LfB.keep h hb
theorem LfA.own {w : World} {n m : Nat} {v : Value} {bits : List Bool} {u : World} (h : LfA w n v m bits u) : u.ownsRow w.heap.size 4 1 v m (bits.map Value.bool) := LfB.own h
theorem LfA.grid {w : World} {n m : Nat} {v : Value} {bits : List Bool} {u : World} (h : LfA w n v m bits u) : Blk u (w.heap.size + 1) 25 #[.int .i64 2, .int .i64 (n : Int), v] := LfB.grid h
theorem LfA.below {w : World} {n m : Nat} {v : Value} {bits : List Bool} {u : World} (h : LfA w n v m bits u) : Below w.heap.size w u := LfB.below h
theorem below_tgrown {w u u' : World} {row : Option Nat} (h : Below w.heap.size w u) (hg : u.grownBy u' row) (hb : ∀ g, row = some g → w.heap.size ≤ g) : Below w.heap.size w u' := h.grown hg h.size hb
theorem LfA.app {w : World} {n c m m' : Nat} {v v' : Value} {bits bits' : List Bool} {u u' : World} (h : LfA w n v m bits u) (hg : u.grownBy u' v.ownBlock) (hown : u'.ownsRow w.heap.size 4 1 v' m' (bits'.map Value.bool)) : LfB w n c v v' m' bits' u' :=
  ⟨below_tgrown h.below hg (fun g e => (h.own.lt g e).1), (LfB.res h).grown hg (own_blk_ne h.own (LfB.res h) (by decide)), h.grid.grown hg (own_blk_ne h.own h.grid (by decide)), hown⟩
theorem LfB.put {w : World} {n c m : Nat} {old v : Value} {bits : List Bool} {u : World} (h : LfB w n c old v m bits u) : LfA w n v m bits (u.setCell ⟨w.heap.size + 1, 2, none⟩ v) :=
  ⟨h.below.setCell (p := ⟨w.heap.size + 1, 2, none⟩) (by simp) v, h.res.far (p := ⟨w.heap.size + 1, 2, none⟩) (by simp) v, by simpa using h.grid.set_ 2 v, own_far h.own (p := ⟨w.heap.size + 1, 2, none⟩) (own_blk_ne h.own h.grid (by decide)) v⟩
set_option linter.unusedVariables false in
def LF (w : World) (b o n c k M cB : Nat) (B : Option Addr) (x : Int) (bits : List Bool) (W : World) : List Bool → List Value → World → Prop
  | [l0, l1, l2, l3, l4, l5, l6, l7, l8, l9], [x0, x1, x2, x3, x4, x5, x6, x7, x8, x9], u => (Below w.heap.size w u ∧ (l7 = false → LfA w n (.slice B M cB) M bits u)) ∧ (l0 = true → x0 = .pointer (some ⟨w.heap.size + 1, 2, none⟩)) ∧ (l1 = true → x1 = (.slice B M cB)) ∧ (l2 = true → x2 = .slice (some ⟨b, o, none⟩) n c) ∧ (l3 = true → x3 = .int .i64 (k : Int)) ∧ (l4 = true → x4 = .pointer (some ⟨b, o + k, none⟩)) ∧ (l5 = true → x5 = .int .i64 x) ∧ (l6 = true → l7 = false → ∃ g : Nat, x6 = .slice (some ⟨g, 0, none⟩) 2 2 ∧ Rd u (some ⟨g, 0, none⟩) 2 ((liftB x).map Value.bool)) ∧ (l7 = true → l1 = true ∧ (l9 = false → ∃ (A' : Option Addr) (c' : Nat), x7 = .slice A' (M + 2) c' ∧ LfB w n c (.slice B M cB) (.slice A' (M + 2) c') (M + 2) (bits ++ liftB x) u)) ∧ (l8 = true → x8 = .pointer (some ⟨w.heap.size + 1, 2, none⟩)) ∧ (l9 = true → l7 = true ∧ ∃ (A' : Option Addr) (c' : Nat), LfA w n (.slice A' (M + 2) c') (M + 2) (bits ++ liftB x) u)
  | _, _, _ => False
theorem LF_get (w : World) (b o n c k M cB : Nat) (B : Option Addr) (x : Int) (bits : List Bool) (W : World) {l0 l1 l2 l3 l4 l5 l6 l7 l8 l9 : Bool} {x0 x1 x2 x3 x4 x5 x6 x7 x8 x9 : Value} {u : World} (hyp : LF w b o n c k M cB B x bits W [l0, l1, l2, l3, l4, l5, l6, l7, l8, l9] [x0, x1, x2, x3, x4, x5, x6, x7, x8, x9] u) : (Below w.heap.size w u ∧ (l7 = false → LfA w n (.slice B M cB) M bits u)) ∧ (l0 = true → x0 = .pointer (some ⟨w.heap.size + 1, 2, none⟩)) ∧ (l1 = true → x1 = (.slice B M cB)) ∧ (l2 = true → x2 = .slice (some ⟨b, o, none⟩) n c) ∧ (l3 = true → x3 = .int .i64 (k : Int)) ∧ (l4 = true → x4 = .pointer (some ⟨b, o + k, none⟩)) ∧ (l5 = true → x5 = .int .i64 x) ∧ (l6 = true → l7 = false → ∃ g : Nat, x6 = .slice (some ⟨g, 0, none⟩) 2 2 ∧ Rd u (some ⟨g, 0, none⟩) 2 ((liftB x).map Value.bool)) ∧ (l7 = true → l1 = true ∧ (l9 = false → ∃ (A' : Option Addr) (c' : Nat), x7 = .slice A' (M + 2) c' ∧ LfB w n c (.slice B M cB) (.slice A' (M + 2) c') (M + 2) (bits ++ liftB x) u)) ∧ (l8 = true → x8 = .pointer (some ⟨w.heap.size + 1, 2, none⟩)) ∧ (l9 = true → l7 = true ∧ ∃ (A' : Option Addr) (c' : Nat), LfA w n (.slice A' (M + 2) c') (M + 2) (bits ++ liftB x) u) := hyp
theorem LF_mk (w : World) (b o n c k M cB : Nat) (B : Option Addr) (x : Int) (bits : List Bool) (W : World) {l0 l1 l2 l3 l4 l5 l6 l7 l8 l9 : Bool} {x0 x1 x2 x3 x4 x5 x6 x7 x8 x9 : Value} {u : World} (hyp : (Below w.heap.size w u ∧ (l7 = false → LfA w n (.slice B M cB) M bits u)) ∧ (l0 = true → x0 = .pointer (some ⟨w.heap.size + 1, 2, none⟩)) ∧ (l1 = true → x1 = (.slice B M cB)) ∧ (l2 = true → x2 = .slice (some ⟨b, o, none⟩) n c) ∧ (l3 = true → x3 = .int .i64 (k : Int)) ∧ (l4 = true → x4 = .pointer (some ⟨b, o + k, none⟩)) ∧ (l5 = true → x5 = .int .i64 x) ∧ (l6 = true → l7 = false → ∃ g : Nat, x6 = .slice (some ⟨g, 0, none⟩) 2 2 ∧ Rd u (some ⟨g, 0, none⟩) 2 ((liftB x).map Value.bool)) ∧ (l7 = true → l1 = true ∧ (l9 = false → ∃ (A' : Option Addr) (c' : Nat), x7 = .slice A' (M + 2) c' ∧ LfB w n c (.slice B M cB) (.slice A' (M + 2) c') (M + 2) (bits ++ liftB x) u)) ∧ (l8 = true → x8 = .pointer (some ⟨w.heap.size + 1, 2, none⟩)) ∧ (l9 = true → l7 = true ∧ ∃ (A' : Option Addr) (c' : Nat), LfA w n (.slice A' (M + 2) c') (M + 2) (bits ++ liftB x) u)) : LF w b o n c k M cB B x bits W [l0, l1, l2, l3, l4, l5, l6, l7, l8, l9] [x0, x1, x2, x3, x4, x5, x6, x7, x8, x9] u := hyp
theorem LF_b : ∀ l : List Bool, l.length = 10 → ∃ a0 a1 a2 a3 a4 a5 a6 a7 a8 a9, l = [a0, a1, a2, a3, a4, a5, a6, a7, a8, a9]
  | [a0, a1, a2, a3, a4, a5, a6, a7, a8, a9], _ => ⟨a0, a1, a2, a3, a4, a5, a6, a7, a8, a9, rfl⟩
theorem LF_v : ∀ l : List Value, l.length = 10 → ∃ a0 a1 a2 a3 a4 a5 a6 a7 a8 a9, l = [a0, a1, a2, a3, a4, a5, a6, a7, a8, a9]
  | [a0, a1, a2, a3, a4, a5, a6, a7, a8, a9], _ => ⟨a0, a1, a2, a3, a4, a5, a6, a7, a8, a9, rfl⟩
set_option linter.unusedVariables false in
set_option maxHeartbeats 6000000 in
set_option maxRecDepth 100000 in
theorem llifts_any (l : List Int) (b o n c : Nat) (w : World) (hr : Rd w (some ⟨b, o, none⟩) n (l.map (Value.int .i64))) (hl : ∀ v ∈ l, v = 1 ∨ v = 2 ∨ v = 3) (hn : n ≤ 64) :
    Calls Try.prog 35 #[.slice (some ⟨b, o, none⟩) n c] w (RetT ⟨2, n, bitsOf (l.map liftB)⟩ w) := by
  obtain ⟨i0, hi0, hz0, hz1, hz2⟩ := info_parts Try.infoB
  have hlen : l.length = n := by simpa using hr.len
  have S0 := (St.start w).box #[.int .i64 0, .int .i64 0, .slice none 0 0] 25
  simp only [List.nil_append] at S0
  have hA0 : LfA w n (.slice none 0 0) 0 [] ((w.alloc (.cells #[.int .i64 0, .int .i64 0, .slice none 0 0] 25)).alloc (.cells #[.int .i64 2, .int .i64 (n : Int), .slice none 0 0] 25)) := by
    have S1 := S0.box #[.int .i64 2, .int .i64 (n : Int), .slice none 0 0] 25
    simp only [size_alloc1, List.nil_append, List.cons_append] at S1
    exact ⟨S1.below, S1.blk 0 rfl, S1.blk 1 rfl, World.ownsRow_nil _ _ _ _⟩
  clear S0
  have HLEN := Lib.hid hlen
  go_enter Try.func35, Try.ntmps35
  go_wp2_with fail
  go_loopw [4] (fun i wr => ∃ (k cB : Nat) (B : Option Addr), k ≤ n ∧ i = .int .i64 k ∧ LfA w n (.slice B (k * 2) cB) (k * 2) (bitsOf ((l.take k).map liftB)) wr) (fun i _ => n - (intOf i).toNat)
  case atStart => exact ⟨0, 0, none, Nat.zero_le _, rfl, hA0⟩
  case round =>
    obtain ⟨k, cB, B, hk, rfl, hA⟩ := hrel
    by_cases hlt : k < n
    · have hlk : k < l.length := by omega
      have HK := Lib.hid (show k * 2 + 2 ≤ 1048576 by omega)
      have HL := Lib.hid (fun u => llift_any l[k] u (hl _ (List.getElem_mem hlk)))
      have HS := Lib.hid (show bitsOf ((l.take (k + 1)).map liftB) = bitsOf ((l.take k).map liftB) ++ liftB l[k] by rw [List.take_add_one, List.getElem?_eq_getElem hlk, Option.toList_some, List.map_append, List.map_cons, List.map_nil, bitsOf_snoc])
      have HM := Lib.hid (show k * 2 + 2 = (k + 1) * 2 by omega)
      have hAd : LfA w n (.slice B (k * 2) cB) (k * 2) (bitsOf ((l.take k).map liftB)) wr.drew := ⟨hA.below.drew, hA.res, hA.grid, hA.own⟩
      have HCELL := Lib.hid (fun u (hu : Below w.heap.size w u) => show u.cell? ⟨b, o + k, none⟩ = some (.int .i64 l[k]) from (hr.below hu).lit k _ (by rw [List.getElem?_map, List.getElem?_eq_getElem hlk]; rfl))
      obtain ⟨x, hx⟩ : ∃ x, l[k] = x := ⟨_, rfl⟩
      rw [hx] at HL HS HCELL
      clear hx hr hl
      go_wp2_with fail
      refine wp_region_invL 10 [some 14, some 15, some 16, some 17, some 18, some 19, some 20, some 21, some 22, none] (LF w b o n c k (k * 2) cB B x (bitsOf ((l.take k).map liftB)) wr.drew) (by kernel_rfl) rfl rfl (by decide) (by kernel_rfl) (fun xs hx => ?_) (fun i hi => ?_) (fun xs wf hx hG => ?_)
      · obtain ⟨x0, x1, x2, x3, x4, x5, x6, x7, x8, x9, rfl⟩ := LF_v xs hx
        show LF w b o n c k (k * 2) cB B x (bitsOf ((l.take k).map liftB)) wr.drew [false, false, false, false, false, false, false, false, false, false] [x0, x1, x2, x3, x4, x5, x6, x7, x8, x9] _
        refine LF_mk w b o n c k (k * 2) cB B x (bitsOf ((l.take k).map liftB)) wr.drew ?_
        exact ⟨⟨hAd.below, fun _ => hAd⟩, (fun g1 => by cases g1), (fun g1 => by cases g1), (fun g1 => by cases g1), (fun g1 => by cases g1), (fun g1 => by cases g1), (fun g1 => by cases g1), (fun g1 => by cases g1), (fun g1 => by cases g1), (fun g1 => by cases g1), (fun g1 => by cases g1)⟩
      · match i, hi with
        | 0, _ =>
          intro o ho l xs w1 hl hx hG hi hdep K hK
          obtain rfl := Option.some.inj (ho.symm.trans rfl)
          clear ho
          obtain ⟨l0, l1, l2, l3, l4, l5, l6, l7, l8, l9, rfl⟩ := LF_b l hl
          obtain ⟨x0, x1, x2, x3, x4, x5, x6, x7, x8, x9, rfl⟩ := LF_v xs hx
          obtain rfl : l0 = false := hi
          clear hdep hl hx
          dsimp only [setAll, List.set_cons_zero, List.set_cons_succ] at hK ⊢
          go_simp
          refine hK.out _ _ ?_
          clear hK K
          have hC := LF_get w b o n c k (k * 2) cB B x (bitsOf ((l.take k).map liftB)) wr.drew hG
          cases hC
          rename_i SD ez1
          cases ez1
          rename_i h0 ez2
          cases ez2
          rename_i h1 ez3
          cases ez3
          rename_i h2 ez4
          cases ez4
          rename_i h3 ez5
          cases ez5
          rename_i h4 ez6
          cases ez6
          rename_i h5 ez7
          cases ez7
          rename_i h6 ez8
          cases ez8
          rename_i h7 ez9
          cases ez9
          rename_i h8 h9
          refine LF_mk w b o n c k (k * 2) cB B x (bitsOf ((l.take k).map liftB)) wr.drew ?_
          exact ⟨SD, (fun g1 => rfl), h1, h2, h3, h4, h5, h6, h7, h8, h9⟩
        | 1, _ =>
          intro o ho l xs w1 hl hx hG hi hdep K hK
          obtain rfl := Option.some.inj (ho.symm.trans rfl)
          clear ho
          obtain ⟨l0, l1, l2, l3, l4, l5, l6, l7, l8, l9, rfl⟩ := LF_b l hl
          obtain ⟨x0, x1, x2, x3, x4, x5, x6, x7, x8, x9, rfl⟩ := LF_v xs hx
          obtain rfl : l1 = false := hi
          obtain rfl : l0 = true := hdep 0 (by kernel_rfl)
          clear hdep hl hx
          dsimp only [setAll, List.set_cons_zero, List.set_cons_succ] at hK ⊢
          have hf := LF_get w b o n c k (k * 2) cB B x (bitsOf ((l.take k).map liftB)) wr.drew hG
          have hF0 := (hf.2.1 rfl)
          have hl7 : l7 = false := by
            cases l7 with
            | false => rfl
            | true => exact absurd (hf.2.2.2.2.2.2.2.2.1 rfl).1 (by decide)
          subst hl7
          have hF6 := (hf.1.2 rfl).grid.cell3
          clear hf
          subst hF0
          cases hF6
          rename_i q0 ez10
          cases ez10
          rename_i q1 q2
          go_simp
          refine hK.out _ _ ?_
          clear hK K
          have hC := LF_get w b o n c k (k * 2) cB B x (bitsOf ((l.take k).map liftB)) wr.drew hG
          cases hC
          rename_i SD ez11
          cases ez11
          rename_i h0 ez12
          cases ez12
          rename_i h1 ez13
          cases ez13
          rename_i h2 ez14
          cases ez14
          rename_i h3 ez15
          cases ez15
          rename_i h4 ez16
          cases ez16
          rename_i h5 ez17
          cases ez17
          rename_i h6 ez18
          cases ez18
          rename_i h7 ez19
          cases ez19
          rename_i h8 h9
          refine LF_mk w b o n c k (k * 2) cB B x (bitsOf ((l.take k).map liftB)) wr.drew ?_
          exact ⟨SD, h0, (fun g1 => rfl), h2, h3, h4, h5, h6, (fun g1 => by obtain ⟨e1, e9⟩ := h7 g1; exact absurd g1 (by decide)), h8, h9⟩
        | 2, _ =>
          intro o ho l xs w1 hl hx hG hi hdep K hK
          obtain rfl := Option.some.inj (ho.symm.trans rfl)
          clear ho
          obtain ⟨l0, l1, l2, l3, l4, l5, l6, l7, l8, l9, rfl⟩ := LF_b l hl
          obtain ⟨x0, x1, x2, x3, x4, x5, x6, x7, x8, x9, rfl⟩ := LF_v xs hx
          obtain rfl : l2 = false := hi
          clear hdep hl hx
          dsimp only [setAll, List.set_cons_zero, List.set_cons_succ] at hK ⊢
          go_simp
          refine hK.out _ _ ?_
          clear hK K
          have hC := LF_get w b o n c k (k * 2) cB B x (bitsOf ((l.take k).map liftB)) wr.drew hG
          cases hC
          rename_i SD ez20
          cases ez20
          rename_i h0 ez21
          cases ez21
          rename_i h1 ez22
          cases ez22
          rename_i h2 ez23
          cases ez23
          rename_i h3 ez24
          cases ez24
          rename_i h4 ez25
          cases ez25
          rename_i h5 ez26
          cases ez26
          rename_i h6 ez27
          cases ez27
          rename_i h7 ez28
          cases ez28
          rename_i h8 h9
          refine LF_mk w b o n c k (k * 2) cB B x (bitsOf ((l.take k).map liftB)) wr.drew ?_
          exact ⟨SD, h0, h1, (fun g1 => rfl), h3, h4, h5, h6, h7, h8, h9⟩
        | 3, _ =>
          intro o ho l xs w1 hl hx hG hi hdep K hK
          obtain rfl := Option.some.inj (ho.symm.trans rfl)
          clear ho
          obtain ⟨l0, l1, l2, l3, l4, l5, l6, l7, l8, l9, rfl⟩ := LF_b l hl
          obtain ⟨x0, x1, x2, x3, x4, x5, x6, x7, x8, x9, rfl⟩ := LF_v xs hx
          obtain rfl : l3 = false := hi
          clear hdep hl hx
          dsimp only [setAll, List.set_cons_zero, List.set_cons_succ] at hK ⊢
          go_simp
          refine hK.out _ _ ?_
          clear hK K
          have hC := LF_get w b o n c k (k * 2) cB B x (bitsOf ((l.take k).map liftB)) wr.drew hG
          cases hC
          rename_i SD ez29
          cases ez29
          rename_i h0 ez30
          cases ez30
          rename_i h1 ez31
          cases ez31
          rename_i h2 ez32
          cases ez32
          rename_i h3 ez33
          cases ez33
          rename_i h4 ez34
          cases ez34
          rename_i h5 ez35
          cases ez35
          rename_i h6 ez36
          cases ez36
          rename_i h7 ez37
          cases ez37
          rename_i h8 h9
          refine LF_mk w b o n c k (k * 2) cB B x (bitsOf ((l.take k).map liftB)) wr.drew ?_
          exact ⟨SD, h0, h1, h2, (fun g1 => rfl), h4, h5, h6, h7, h8, h9⟩
        | 4, _ =>
          intro o ho l xs w1 hl hx hG hi hdep K hK
          obtain rfl := Option.some.inj (ho.symm.trans rfl)
          clear ho
          obtain ⟨l0, l1, l2, l3, l4, l5, l6, l7, l8, l9, rfl⟩ := LF_b l hl
          obtain ⟨x0, x1, x2, x3, x4, x5, x6, x7, x8, x9, rfl⟩ := LF_v xs hx
          obtain rfl : l4 = false := hi
          obtain rfl : l2 = true := hdep 2 (by kernel_rfl)
          obtain rfl : l3 = true := hdep 3 (by kernel_rfl)
          clear hdep hl hx
          dsimp only [setAll, List.set_cons_zero, List.set_cons_succ] at hK ⊢
          have hf := LF_get w b o n c k (k * 2) cB B x (bitsOf ((l.take k).map liftB)) wr.drew hG
          have hF0 := (hf.2.2.2.1 rfl)
          have hF1 := (hf.2.2.2.2.1 rfl)
          clear hf
          subst hF0
          subst hF1
          go_simp
          refine hK.out _ _ ?_
          clear hK K
          have hC := LF_get w b o n c k (k * 2) cB B x (bitsOf ((l.take k).map liftB)) wr.drew hG
          cases hC
          rename_i SD ez38
          cases ez38
          rename_i h0 ez39
          cases ez39
          rename_i h1 ez40
          cases ez40
          rename_i h2 ez41
          cases ez41
          rename_i h3 ez42
          cases ez42
          rename_i h4 ez43
          cases ez43
          rename_i h5 ez44
          cases ez44
          rename_i h6 ez45
          cases ez45
          rename_i h7 ez46
          cases ez46
          rename_i h8 h9
          refine LF_mk w b o n c k (k * 2) cB B x (bitsOf ((l.take k).map liftB)) wr.drew ?_
          exact ⟨SD, h0, h1, h2, h3, (fun g1 => rfl), h5, h6, h7, h8, h9⟩
        | 5, _ =>
          intro o ho l xs w1 hl hx hG hi hdep K hK
          obtain rfl := Option.some.inj (ho.symm.trans rfl)
          clear ho
          obtain ⟨l0, l1, l2, l3, l4, l5, l6, l7, l8, l9, rfl⟩ := LF_b l hl
          obtain ⟨x0, x1, x2, x3, x4, x5, x6, x7, x8, x9, rfl⟩ := LF_v xs hx
          obtain rfl : l5 = false := hi
          obtain rfl : l4 = true := hdep 4 (by kernel_rfl)
          clear hdep hl hx
          dsimp only [setAll, List.set_cons_zero, List.set_cons_succ] at hK ⊢
          have hf := LF_get w b o n c k (k * 2) cB B x (bitsOf ((l.take k).map liftB)) wr.drew hG
          have hq := HCELL.out _ hf.1.1
          have hF1 := (hf.2.2.2.2.2.1 rfl)
          clear hf
          subst hF1
          go_simp
          refine hK.out _ _ ?_
          clear hK K
          have hC := LF_get w b o n c k (k * 2) cB B x (bitsOf ((l.take k).map liftB)) wr.drew hG
          cases hC
          rename_i SD ez47
          cases ez47
          rename_i h0 ez48
          cases ez48
          rename_i h1 ez49
          cases ez49
          rename_i h2 ez50
          cases ez50
          rename_i h3 ez51
          cases ez51
          rename_i h4 ez52
          cases ez52
          rename_i h5 ez53
          cases ez53
          rename_i h6 ez54
          cases ez54
          rename_i h7 ez55
          cases ez55
          rename_i h8 h9
          refine LF_mk w b o n c k (k * 2) cB B x (bitsOf ((l.take k).map liftB)) wr.drew ?_
          exact ⟨SD, h0, h1, h2, h3, h4, (fun g1 => rfl), h6, h7, h8, h9⟩
        | 6, _ =>
          intro o ho l xs w1 hl hx hG hi hdep K hK
          obtain rfl := Option.some.inj (ho.symm.trans rfl)
          clear ho
          obtain ⟨l0, l1, l2, l3, l4, l5, l6, l7, l8, l9, rfl⟩ := LF_b l hl
          obtain ⟨x0, x1, x2, x3, x4, x5, x6, x7, x8, x9, rfl⟩ := LF_v xs hx
          obtain rfl : l6 = false := hi
          obtain rfl : l5 = true := hdep 5 (by kernel_rfl)
          clear hdep hl hx
          dsimp only [setAll, List.set_cons_zero, List.set_cons_succ] at hK ⊢
          have hf := LF_get w b o n c k (k * 2) cB B x (bitsOf ((l.take k).map liftB)) wr.drew hG
          have hF0 := (hf.2.2.2.2.2.2.1 rfl)
          clear hf
          subst hF0
          have HQ := HL.out w1
          go_simp
          refine HQ.mono ?_
          rintro e wz ⟨rfl, hB, hbz⟩
          try go_simp
          refine hK.out _ _ ?_
          clear hK K
          have hC := LF_get w b o n c k (k * 2) cB B x (bitsOf ((l.take k).map liftB)) wr.drew hG
          cases hC
          rename_i SD ez56
          cases ez56
          rename_i h0 ez57
          cases ez57
          rename_i h1 ez58
          cases ez58
          rename_i h2 ez59
          cases ez59
          rename_i h3 ez60
          cases ez60
          rename_i h4 ez61
          cases ez61
          rename_i h5 ez62
          cases ez62
          rename_i h6 ez63
          cases ez63
          rename_i h7 ez64
          cases ez64
          rename_i h8 h9
          have hb := hbz
          refine LF_mk w b o n c k (k * 2) cB B x (bitsOf ((l.take k).map liftB)) wr.drew ?_
          exact ⟨⟨below_then SD.1 hb, fun g => (SD.2 g).keep hb⟩, (fun g1 => by obtain e := h0 g1; exact e), (fun g1 => by obtain e := h1 g1; exact e), (fun g1 => by obtain e := h2 g1; exact e), (fun g1 => by obtain e := h3 g1; exact e), (fun g1 => by obtain e := h4 g1; exact e), (fun g1 => by obtain e := h5 g1; exact e), (fun g1 g2 => ⟨_, rfl, rd_of_own (liftB_own (n := x) hB (Nat.le_refl _))⟩), (fun g1 => by obtain ⟨e1, e9⟩ := h7 g1; exact ⟨e1, fun g => by obtain ⟨A', c', e, k⟩ := e9 g; exact ⟨A', c', e, k.keep hb⟩⟩), (fun g1 => by obtain e := h8 g1; exact e), (fun g1 => by obtain ⟨e7, A', c', k⟩ := h9 g1; exact ⟨e7, A', c', k.keep hb⟩)⟩
        | 7, _ =>
          intro o ho l xs w1 hl hx hG hi hdep K hK
          obtain rfl := Option.some.inj (ho.symm.trans rfl)
          clear ho
          obtain ⟨l0, l1, l2, l3, l4, l5, l6, l7, l8, l9, rfl⟩ := LF_b l hl
          obtain ⟨x0, x1, x2, x3, x4, x5, x6, x7, x8, x9, rfl⟩ := LF_v xs hx
          obtain rfl : l7 = false := hi
          obtain rfl : l1 = true := hdep 1 (by kernel_rfl)
          obtain rfl : l6 = true := hdep 6 (by kernel_rfl)
          clear hdep hl hx
          dsimp only [setAll, List.set_cons_zero, List.set_cons_succ] at hK ⊢
          have hf := LF_get w b o n c k (k * 2) cB B x (bitsOf ((l.take k).map liftB)) wr.drew hG
          have hF0 := (hf.2.2.1 rfl)
          have hF1 := (hf.2.2.2.2.2.2.2.1 rfl rfl)
          have hA := hf.1.2 rfl
          have hbs := hf.1.1.size
          clear hf
          subst hF0
          cases hF1
          rename_i g ez65
          cases ez65
          rename_i ez66 hr6
          subst ez66
          have hn7 := HK.out
          refine want_step2 (by simp [Region.wanted]) ?_
          refine wp_app_all w1 (.tmp 15) (.tmp 20) 23 rfl w.heap.size 4 i0 (.bool false) 1 Try.underlying23 hi0 hz0 hz1 hz2 rfl (by decide) (.slice B (k * 2) cB) (k * 2) _ rfl hA.own (some ⟨g, 0, none⟩) 2 2 _ rfl hr6 (oneCell_bools _) (by omega) hA.below.size ?_
          intro A' c' w3 hown3 hg3
          dsimp only [Act.put]
          simp only [List.setIfInBounds_toArray]
          refine hK.out _ _ ?_
          clear hK K
          have hC := LF_get w b o n c k (k * 2) cB B x (bitsOf ((l.take k).map liftB)) wr.drew hG
          cases hC
          rename_i SD ez67
          cases ez67
          rename_i h0 ez68
          cases ez68
          rename_i h1 ez69
          cases ez69
          rename_i h2 ez70
          cases ez70
          rename_i h3 ez71
          cases ez71
          rename_i h4 ez72
          cases ez72
          rename_i h5 ez73
          cases ez73
          rename_i h6 ez74
          cases ez74
          rename_i h7 ez75
          cases ez75
          rename_i h8 h9
          refine LF_mk w b o n c k (k * 2) cB B x (bitsOf ((l.take k).map liftB)) wr.drew ?_
          exact ⟨⟨below_tgrown SD.1 hg3 (fun k hk => hA.own.lt k hk |>.1), fun g => by cases g⟩, h0, h1, h2, h3, h4, h5, (fun _ g2 => by cases g2), (fun g1 => ⟨rfl, fun _ => ⟨A', c', rfl, hA.app hg3 (by rw [List.map_append]; exact hown3)⟩⟩), h8, (fun g1 => by obtain ⟨e7, A', c', k⟩ := h9 g1; cases e7)⟩
        | 8, _ =>
          intro o ho l xs w1 hl hx hG hi hdep K hK
          obtain rfl := Option.some.inj (ho.symm.trans rfl)
          clear ho
          obtain ⟨l0, l1, l2, l3, l4, l5, l6, l7, l8, l9, rfl⟩ := LF_b l hl
          obtain ⟨x0, x1, x2, x3, x4, x5, x6, x7, x8, x9, rfl⟩ := LF_v xs hx
          obtain rfl : l8 = false := hi
          obtain rfl : l0 = true := hdep 0 (by kernel_rfl)
          obtain rfl : l1 = true := hdep 1 (by kernel_rfl)
          obtain rfl : l2 = true := hdep 2 (by kernel_rfl)
          obtain rfl : l3 = true := hdep 3 (by kernel_rfl)
          obtain rfl : l4 = true := hdep 4 (by kernel_rfl)
          obtain rfl : l5 = true := hdep 5 (by kernel_rfl)
          obtain rfl : l6 = true := hdep 6 (by kernel_rfl)
          obtain rfl : l7 = true := hdep 7 (by kernel_rfl)
          clear hdep hl hx
          dsimp only [setAll, List.set_cons_zero, List.set_cons_succ] at hK ⊢
          go_simp
          refine hK.out _ _ ?_
          clear hK K
          have hC := LF_get w b o n c k (k * 2) cB B x (bitsOf ((l.take k).map liftB)) wr.drew hG
          cases hC
          rename_i SD ez76
          cases ez76
          rename_i h0 ez77
          cases ez77
          rename_i h1 ez78
          cases ez78
          rename_i h2 ez79
          cases ez79
          rename_i h3 ez80
          cases ez80
          rename_i h4 ez81
          cases ez81
          rename_i h5 ez82
          cases ez82
          rename_i h6 ez83
          cases ez83
          rename_i h7 ez84
          cases ez84
          rename_i h8 h9
          refine LF_mk w b o n c k (k * 2) cB B x (bitsOf ((l.take k).map liftB)) wr.drew ?_
          exact ⟨SD, h0, h1, h2, h3, h4, h5, (fun _ g2 => by cases g2), h7, (fun g1 => rfl), h9⟩
        | 9, _ =>
          intro o ho l xs w1 hl hx hG hi hdep K hK
          obtain rfl := Option.some.inj (ho.symm.trans rfl)
          clear ho
          obtain ⟨l0, l1, l2, l3, l4, l5, l6, l7, l8, l9, rfl⟩ := LF_b l hl
          obtain ⟨x0, x1, x2, x3, x4, x5, x6, x7, x8, x9, rfl⟩ := LF_v xs hx
          obtain rfl : l9 = false := hi
          obtain rfl : l8 = true := hdep 8 (by kernel_rfl)
          obtain rfl : l7 = true := hdep 7 (by kernel_rfl)
          obtain rfl : l0 = true := hdep 0 (by kernel_rfl)
          obtain rfl : l1 = true := hdep 1 (by kernel_rfl)
          obtain rfl : l2 = true := hdep 2 (by kernel_rfl)
          obtain rfl : l3 = true := hdep 3 (by kernel_rfl)
          obtain rfl : l4 = true := hdep 4 (by kernel_rfl)
          obtain rfl : l5 = true := hdep 5 (by kernel_rfl)
          obtain rfl : l6 = true := hdep 6 (by kernel_rfl)
          clear hdep hl hx
          dsimp only [setAll, List.set_cons_zero, List.set_cons_succ] at hK ⊢
          have hf := LF_get w b o n c k (k * 2) cB B x (bitsOf ((l.take k).map liftB)) wr.drew hG
          have hF0 := (hf.2.2.2.2.2.2.2.2.1 rfl)
          have hF1 := (hf.2.2.2.2.2.2.2.2.2.1 rfl)
          clear hf
          cases hF0
          rename_i _ k9
          have hE85 := k9 rfl
          cases hE85
          rename_i A' ez86
          cases ez86
          rename_i c' ez87
          cases ez87
          rename_i ez88 hB
          subst ez88
          subst hF1
          have hE89 := hB.grid.frozen3
          cases hE89
          rename_i q0 ez90
          cases ez90
          rename_i q1 q2
          have hE91 := hB.grid.cell3
          cases hE91
          rename_i p0 ez92
          cases ez92
          rename_i p1 p2
          go_simp
          refine hK.out undef _ ?_
          clear hK K
          have hC := LF_get w b o n c k (k * 2) cB B x (bitsOf ((l.take k).map liftB)) wr.drew hG
          cases hC
          rename_i SD ez93
          cases ez93
          rename_i h0 ez94
          cases ez94
          rename_i h1 ez95
          cases ez95
          rename_i h2 ez96
          cases ez96
          rename_i h3 ez97
          cases ez97
          rename_i h4 ez98
          cases ez98
          rename_i h5 ez99
          cases ez99
          rename_i h6 ez100
          cases ez100
          rename_i h7 ez101
          cases ez101
          rename_i h8 h9
          refine LF_mk w b o n c k (k * 2) cB B x (bitsOf ((l.take k).map liftB)) wr.drew ?_
          exact ⟨⟨SD.1.setCell (p := ⟨w.heap.size + 1, 2, none⟩) (Nat.le_succ _) _, fun g => by cases g⟩, h0, h1, h2, h3, h4, h5, (fun _ g2 => by cases g2), (fun g1 => by obtain ⟨e1, e9⟩ := h7 g1; exact ⟨e1, fun g => by cases g⟩), h8, (fun g1 => ⟨rfl, A', c', hB.put⟩)⟩
        | k + 10, h => exact absurd h (by omega)
      · obtain ⟨x0, x1, x2, x3, x4, x5, x6, x7, x8, x9, rfl⟩ := LF_v xs hx
        have hG : LF w b o n c k (k * 2) cB B x (bitsOf ((l.take k).map liftB)) wr.drew [true, true, true, true, true, true, true, true, true, true] [x0, x1, x2, x3, x4, x5, x6, x7, x8, x9] wf := hG
        have hf := LF_get w b o n c k (k * 2) cB B x (bitsOf ((l.take k).map liftB)) wr.drew hG
        have hF0 := (hf.2.2.2.2.2.2.2.2.2.2 rfl)
        clear hf
        cases hF0
        rename_i _ ez102
        cases ez102
        rename_i A' ez103
        cases ez103
        rename_i c' hA
        clear hG hx
        dsimp only [setAll, List.set_cons_zero, List.set_cons_succ]
        go_wp2_with fail
        go_roundw
        case rel => exact ⟨k + 1, c', A', by omega, by go_num, by rw [HS.out, ← HM.out]; exact hA⟩
        case measure => simp [intOf]; omega
    · obtain rfl : k = n := by omega
      obtain ⟨c0, c1, c2⟩ := hA.grid.cell3
      obtain ⟨f0, f1, f2⟩ := (LfB.res hA).frozen3
      obtain ⟨r0, r1, r2⟩ := (LfB.res hA).cell3
      obtain ⟨q0, q1, q2⟩ := ((LfB.res hA).set3 (.int .i64 2) (.int .i64 (k : Int)) (.slice B (k * 2) cB)).cell3
      go_wp2_with fail
      refine bodyPost_ret (v := .agg #[.int .i64 2, .int .i64 (k : Int), .slice B (k * 2) cB]) (by simp [results, Try.results35, go_sem, q0, q1, q2]) rfl ?_
      exact ⟨B, k * 2, cB, rfl, by have := own_set3 hA.own (LfB.res hA) (by decide) (.int .i64 2) (.int .i64 (k : Int)) (.slice B (k * 2) cB); rw [List.take_of_length_le (by have := HLEN.out; omega)] at this; exact this, below_set3 hA.below (Nat.le_refl _) _ _ _⟩
end Go.Proofs.Ytfjdlbilnoojkaa
