/- raddleref20.Rows: whether two picks are equal. -/
import Derived.Test.YtfjdlbilnoojkaaPicksz
import Derived.Test.YtfjdlbilnoojkaaMg8z
import Derived.Test.YtfjdlbilnoojkaaInvRz
import Derived.Deep.Draws
namespace Go.Proofs.Ytfjdlbilnoojkaa
open Go.RowKit

theorem ret_rows {a b : Bool} (h : a = b) : Ending.returned (.bool a) = Ending.returned (.bool b) := by rw [h]
theorem rowB_get (a : Nat) (bs : List Bool) (y x : Nat) (hx : x < a) : (rowB a bs y)[x]? = bs[y * a + x]? := by
  unfold rowB
  rw [List.getElem?_take, if_pos hx, List.getElem?_drop]
theorem rowB_eq {a ha hb y z : Nat} {bs bt : List Bool} (hl : bs.length = ha * a) (hl2 : bt.length = hb * a) (hy : y < ha) (hz : z < hb) (h : ∀ x, x < a → bs.getD (y * a + x) false = bt.getD (z * a + x) false) : rowB a bs y = rowB a bt z := by
  have h1 := rowB_len hl hy
  have h2 := rowB_len hl2 hz
  refine List.ext_getElem? fun x => ?_
  by_cases hx : x < a
  · rw [rowB_get _ _ _ _ hx, rowB_get _ _ _ _ hx]
    have k1 : y * a + x < bs.length := by rw [hl]; exact Pl.cell_lt hx hy
    have k2 : z * a + x < bt.length := by rw [hl2]; exact Pl.cell_lt hx hz
    have h3 := h x hx
    rw [List.getD_eq_getElem?_getD, List.getD_eq_getElem?_getD, List.getElem?_eq_getElem k1, List.getElem?_eq_getElem k2] at h3
    rw [List.getElem?_eq_getElem k1, List.getElem?_eq_getElem k2]
    simpa using h3
  · rw [List.getElem?_eq_none (by omega), List.getElem?_eq_none (by omega)]
theorem rowB_at {a y z x : Nat} {bs bt : List Bool} (hx : x < a) (h : rowB a bs y = rowB a bt z) : bs.getD (y * a + x) false = bt.getD (z * a + x) false := by
  rw [List.getD_eq_getElem?_getD, List.getD_eq_getElem?_getD, ← rowB_get a bs y x hx, ← rowB_get a bt z x hx, h]
set_option linter.unusedVariables false in
def RW (w : World) (L : List Fact) (a ka kb y z x : Nat) (A B : Option Addr) (nA cA nB cB : Nat) (p q : Bool) : List Bool → List Value → World → Prop
  | [l0, l1, l2, l3, l4, l5, l6, l7, l8], [x0, x1, x2, x3, x4, x5, x6, x7, x8], u => (St w L u) ∧ (l0 = true → x0 = .agg #[.int .i64 (a : Int), .int .i64 (ka : Int), .slice A nA cA]) ∧ (l1 = true → x1 = .int .i64 (x : Int)) ∧ (l2 = true → x2 = .int .i64 (y : Int)) ∧ (l3 = true → x3 = .bool p) ∧ (l4 = true → x4 = .agg #[.int .i64 (a : Int), .int .i64 (kb : Int), .slice B nB cB]) ∧ (l5 = true → x5 = .int .i64 (x : Int)) ∧ (l6 = true → x6 = .int .i64 (z : Int)) ∧ (l7 = true → x7 = .bool q) ∧ (l8 = true → x8 = .bool (p != q))
  | _, _, _ => False
theorem RW_get (w : World) (L : List Fact) (a ka kb y z x : Nat) (A B : Option Addr) (nA cA nB cB : Nat) (p q : Bool) {l0 l1 l2 l3 l4 l5 l6 l7 l8 : Bool} {x0 x1 x2 x3 x4 x5 x6 x7 x8 : Value} {u : World} (hyp : RW w L a ka kb y z x A B nA cA nB cB p q [l0, l1, l2, l3, l4, l5, l6, l7, l8] [x0, x1, x2, x3, x4, x5, x6, x7, x8] u) : (St w L u) ∧ (l0 = true → x0 = .agg #[.int .i64 (a : Int), .int .i64 (ka : Int), .slice A nA cA]) ∧ (l1 = true → x1 = .int .i64 (x : Int)) ∧ (l2 = true → x2 = .int .i64 (y : Int)) ∧ (l3 = true → x3 = .bool p) ∧ (l4 = true → x4 = .agg #[.int .i64 (a : Int), .int .i64 (kb : Int), .slice B nB cB]) ∧ (l5 = true → x5 = .int .i64 (x : Int)) ∧ (l6 = true → x6 = .int .i64 (z : Int)) ∧ (l7 = true → x7 = .bool q) ∧ (l8 = true → x8 = .bool (p != q)) := hyp
theorem RW_mk (w : World) (L : List Fact) (a ka kb y z x : Nat) (A B : Option Addr) (nA cA nB cB : Nat) (p q : Bool) {l0 l1 l2 l3 l4 l5 l6 l7 l8 : Bool} {x0 x1 x2 x3 x4 x5 x6 x7 x8 : Value} {u : World} (hyp : (St w L u) ∧ (l0 = true → x0 = .agg #[.int .i64 (a : Int), .int .i64 (ka : Int), .slice A nA cA]) ∧ (l1 = true → x1 = .int .i64 (x : Int)) ∧ (l2 = true → x2 = .int .i64 (y : Int)) ∧ (l3 = true → x3 = .bool p) ∧ (l4 = true → x4 = .agg #[.int .i64 (a : Int), .int .i64 (kb : Int), .slice B nB cB]) ∧ (l5 = true → x5 = .int .i64 (x : Int)) ∧ (l6 = true → x6 = .int .i64 (z : Int)) ∧ (l7 = true → x7 = .bool q) ∧ (l8 = true → x8 = .bool (p != q))) : RW w L a ka kb y z x A B nA cA nB cB p q [l0, l1, l2, l3, l4, l5, l6, l7, l8] [x0, x1, x2, x3, x4, x5, x6, x7, x8] u := hyp
theorem RW_b : ∀ l : List Bool, l.length = 9 → ∃ a0 a1 a2 a3 a4 a5 a6 a7 a8, l = [a0, a1, a2, a3, a4, a5, a6, a7, a8]
  | [a0, a1, a2, a3, a4, a5, a6, a7, a8], _ => ⟨a0, a1, a2, a3, a4, a5, a6, a7, a8, rfl⟩
theorem RW_v : ∀ l : List Value, l.length = 9 → ∃ a0 a1 a2 a3 a4 a5 a6 a7 a8, l = [a0, a1, a2, a3, a4, a5, a6, a7, a8]
  | [a0, a1, a2, a3, a4, a5, a6, a7, a8], _ => ⟨a0, a1, a2, a3, a4, a5, a6, a7, a8, rfl⟩
set_option linter.unusedVariables false in
set_option maxHeartbeats 4000000 in
set_option maxRecDepth 100000 in
theorem rows20_any (a ka kb y z : Nat) (bs bt : List Bool) (A B : Option Addr) (nA cA nB cB : Nat) (w : World) (ha1 : a ≤ 64) (hha : ka ≤ 64) (hhb : kb ≤ 64) (hy : y < ka) (hz : z < kb)
    (hl : bs.length = ka * a) (hl2 : bt.length = kb * a) (hr : Rd w A nA (bs.map Value.bool)) (hr2 : Rd w B nB (bt.map Value.bool)) :
    Calls Try.prog 30 #[.agg #[.int .i64 a, .int .i64 ka, .slice A nA cA], .int .i64 y, .agg #[.int .i64 a, .int .i64 kb, .slice B nB cB], .int .i64 z] w fun e w' => e = .returned (.bool (decide (rowB a bs y = rowB a bt z))) ∧ Below w.heap.size w w' := by
  obtain rfl : nA = ka * a := by have := hr.len; simpa [hl] using this.symm
  obtain rfl : nB = kb * a := by have := hr2.len; simpa [hl2] using this.symm
  have S0 := ((St.start w).box #[.int .i64 a, .int .i64 ka, .slice A (ka * a) cA] 25).box #[.int .i64 a, .int .i64 kb, .slice B (kb * a) cB] 25
  simp only [size_alloc1, List.nil_append, List.cons_append] at S0
  have HAT := Lib.hid (fun (x : Nat) (hx : x < a) u (hu : Below w.heap.size w u) => at_any a ka x y bs ka A cA u ha1 hha hx hy (hr.below hu))
  have HBT := Lib.hid (fun (x : Nat) (hx : x < a) u (hu : Below w.heap.size w u) => at_any a kb x z bt kb B cB u ha1 hhb hx hz (hr2.below hu))
  have HEQ := Lib.hid (rowB_eq (a := a) hl hl2 hy hz)
  clear hr hr2 hl hl2
  generalize hLF : [Fact.blk w.heap.size 25 #[.int .i64 a, .int .i64 ka, .slice A (ka * a) cA], Fact.blk (w.heap.size + 1) 25 #[.int .i64 a, .int .i64 kb, .slice B (kb * a) cB]] = LF at S0
  go_enter Try.func30, Try.ntmps30
  go_wp2_with fail
  go_loopw [9] (fun i wr => ∃ x : Nat, x ≤ a ∧ i = .int .i64 x ∧ (∀ x', x' < x → bs.getD (y * a + x') false = bt.getD (z * a + x') false) ∧ St w LF wr) (fun i _ => a - (intOf i).toNat)
  case atStart => exact ⟨0, Nat.zero_le _, rfl, fun _ h => absurd h (by omega), S0⟩
  case round =>
    obtain ⟨x, hxa, rfl, heq, S1⟩ := hrel
    subst hLF
    have HE := Lib.hid heq
    clear heq S0
    obtain ⟨c0, c1, c2⟩ := (S1.blk 0 rfl).cell3
    by_cases hlt : x < a
    · have HA := Lib.hid (fun u hu => HAT.out x hlt u hu)
      have HB := Lib.hid (fun u hu => HBT.out x hlt u hu)
      have HPQ := Lib.hid (show bs.getD (y * a + x) false = bt.getD (z * a + x) false → ∀ x', x' < x + 1 → bs.getD (y * a + x') false = bt.getD (z * a + x') false from fun h x' hx' => by
        by_cases hxx : x' = x
        · subst hxx; exact h
        · exact HE.out x' (by omega))
      have HNE := Lib.hid (show bs.getD (y * a + x) false ≠ bt.getD (z * a + x) false → ¬ (rowB a bs y = rowB a bt z) from fun h h2 => h (rowB_at hlt h2))
      generalize bs.getD (y * a + x) false = p at HA HPQ HNE
      generalize bt.getD (z * a + x) false = q at HB HPQ HNE
      go_wp2_with fail
      clear c0 c1 c2
      generalize hLF : [Fact.blk w.heap.size 25 #[.int .i64 a, .int .i64 ka, .slice A (ka * a) cA], Fact.blk (w.heap.size + 1) 25 #[.int .i64 a, .int .i64 kb, .slice B (kb * a) cB]] = LF at *
      refine wp_region_invL 9 [some 16, some 17, some 18, some 19, some 20, some 21, some 22, some 23, some 24] (RW w LF a ka kb y z x A B (ka * a) cA (kb * a) cB p q) (by kernel_rfl) rfl rfl (by decide) (by kernel_rfl) (fun xs hx => ?_) (fun i hi => ?_) (fun xs wf hx hG => ?_)
      · obtain ⟨x0, x1, x2, x3, x4, x5, x6, x7, x8, rfl⟩ := RW_v xs hx
        show RW w LF a ka kb y z x A B (ka * a) cA (kb * a) cB p q [false, false, false, false, false, false, false, false, false] [x0, x1, x2, x3, x4, x5, x6, x7, x8] _
        refine RW_mk w LF a ka kb y z x A B (ka * a) cA (kb * a) cB p q ?_
        exact ⟨S1.drew, (fun g1 => by cases g1), (fun g1 => by cases g1), (fun g1 => by cases g1), (fun g1 => by cases g1), (fun g1 => by cases g1), (fun g1 => by cases g1), (fun g1 => by cases g1), (fun g1 => by cases g1), (fun g1 => by cases g1)⟩
      · match i, hi with
        | 0, _ =>
          intro o ho l xs w1 hl hx hG hi hdep K hK
          obtain rfl := Option.some.inj (ho.symm.trans rfl)
          clear ho
          obtain ⟨l0, l1, l2, l3, l4, l5, l6, l7, l8, rfl⟩ := RW_b l hl
          obtain ⟨x0, x1, x2, x3, x4, x5, x6, x7, x8, rfl⟩ := RW_v xs hx
          obtain rfl : l0 = false := hi
          clear hdep hl hx
          dsimp only [setAll, List.set_cons_zero, List.set_cons_succ] at hK ⊢
          have hf := RW_get w LF a ka kb y z x A B (ka * a) cA (kb * a) cB p q hG
          obtain ⟨c0, c1, c2⟩ := ((hLF ▸ hf.1 : St w [Fact.blk _ _ _, _] w1).blk 0 rfl).cell3
          clear hf
          go_simp
          refine hK.out _ _ ?_
          clear hK K
          obtain ⟨SD, h0, h1, h2, h3, h4, h5, h6, h7, h8⟩ := RW_get w LF a ka kb y z x A B (ka * a) cA (kb * a) cB p q hG
          refine RW_mk w LF a ka kb y z x A B (ka * a) cA (kb * a) cB p q ?_
          exact ⟨SD, (fun g1 => rfl), h1, h2, h3, h4, h5, h6, h7, h8⟩
        | 1, _ =>
          intro o ho l xs w1 hl hx hG hi hdep K hK
          obtain rfl := Option.some.inj (ho.symm.trans rfl)
          clear ho
          obtain ⟨l0, l1, l2, l3, l4, l5, l6, l7, l8, rfl⟩ := RW_b l hl
          obtain ⟨x0, x1, x2, x3, x4, x5, x6, x7, x8, rfl⟩ := RW_v xs hx
          obtain rfl : l1 = false := hi
          clear hdep hl hx
          dsimp only [setAll, List.set_cons_zero, List.set_cons_succ] at hK ⊢
          go_simp
          refine hK.out _ _ ?_
          clear hK K
          obtain ⟨SD, h0, h1, h2, h3, h4, h5, h6, h7, h8⟩ := RW_get w LF a ka kb y z x A B (ka * a) cA (kb * a) cB p q hG
          refine RW_mk w LF a ka kb y z x A B (ka * a) cA (kb * a) cB p q ?_
          exact ⟨SD, h0, (fun g1 => rfl), h2, h3, h4, h5, h6, h7, h8⟩
        | 2, _ =>
          intro o ho l xs w1 hl hx hG hi hdep K hK
          obtain rfl := Option.some.inj (ho.symm.trans rfl)
          clear ho
          obtain ⟨l0, l1, l2, l3, l4, l5, l6, l7, l8, rfl⟩ := RW_b l hl
          obtain ⟨x0, x1, x2, x3, x4, x5, x6, x7, x8, rfl⟩ := RW_v xs hx
          obtain rfl : l2 = false := hi
          clear hdep hl hx
          dsimp only [setAll, List.set_cons_zero, List.set_cons_succ] at hK ⊢
          go_simp
          refine hK.out _ _ ?_
          clear hK K
          obtain ⟨SD, h0, h1, h2, h3, h4, h5, h6, h7, h8⟩ := RW_get w LF a ka kb y z x A B (ka * a) cA (kb * a) cB p q hG
          refine RW_mk w LF a ka kb y z x A B (ka * a) cA (kb * a) cB p q ?_
          exact ⟨SD, h0, h1, (fun g1 => rfl), h3, h4, h5, h6, h7, h8⟩
        | 3, _ =>
          intro o ho l xs w1 hl hx hG hi hdep K hK
          obtain rfl := Option.some.inj (ho.symm.trans rfl)
          clear ho
          obtain ⟨l0, l1, l2, l3, l4, l5, l6, l7, l8, rfl⟩ := RW_b l hl
          obtain ⟨x0, x1, x2, x3, x4, x5, x6, x7, x8, rfl⟩ := RW_v xs hx
          obtain rfl : l3 = false := hi
          obtain rfl : l0 = true := hdep 0 (by kernel_rfl)
          obtain rfl : l1 = true := hdep 1 (by kernel_rfl)
          obtain rfl : l2 = true := hdep 2 (by kernel_rfl)
          clear hdep hl hx
          dsimp only [setAll, List.set_cons_zero, List.set_cons_succ] at hK ⊢
          have hf := RW_get w LF a ka kb y z x A B (ka * a) cA (kb * a) cB p q hG
          obtain rfl := (hf.2.1 rfl)
          obtain rfl := (hf.2.2.1 rfl)
          obtain rfl := (hf.2.2.2.1 rfl)
          have SX := hf.1
          clear hf
          go_simp
          refine (HA.out _ SX.below).mono ?_
          rintro e wz ⟨rfl, hbz⟩
          try go_simp
          refine hK.out _ _ ?_
          clear hK K
          obtain ⟨SD, h0, h1, h2, h3, h4, h5, h6, h7, h8⟩ := RW_get w LF a ka kb y z x A B (ka * a) cA (kb * a) cB p q hG
          have hb := hbz
          refine RW_mk w LF a ka kb y z x A B (ka * a) cA (kb * a) cB p q ?_
          exact ⟨SD.keep hb, (fun g1 => by obtain e := h0 g1; exact e), (fun g1 => by obtain e := h1 g1; exact e), (fun g1 => by obtain e := h2 g1; exact e), (fun g1 => rfl), (fun g1 => by obtain e := h4 g1; exact e), (fun g1 => by obtain e := h5 g1; exact e), (fun g1 => by obtain e := h6 g1; exact e), (fun g1 => by obtain e := h7 g1; exact e), (fun g1 => by obtain e := h8 g1; exact e)⟩
        | 4, _ =>
          intro o ho l xs w1 hl hx hG hi hdep K hK
          obtain rfl := Option.some.inj (ho.symm.trans rfl)
          clear ho
          obtain ⟨l0, l1, l2, l3, l4, l5, l6, l7, l8, rfl⟩ := RW_b l hl
          obtain ⟨x0, x1, x2, x3, x4, x5, x6, x7, x8, rfl⟩ := RW_v xs hx
          obtain rfl : l4 = false := hi
          clear hdep hl hx
          dsimp only [setAll, List.set_cons_zero, List.set_cons_succ] at hK ⊢
          have hf := RW_get w LF a ka kb y z x A B (ka * a) cA (kb * a) cB p q hG
          obtain ⟨c0, c1, c2⟩ := ((hLF ▸ hf.1 : St w [_, Fact.blk _ _ _] w1).blk 1 rfl).cell3
          clear hf
          go_simp
          refine hK.out _ _ ?_
          clear hK K
          obtain ⟨SD, h0, h1, h2, h3, h4, h5, h6, h7, h8⟩ := RW_get w LF a ka kb y z x A B (ka * a) cA (kb * a) cB p q hG
          refine RW_mk w LF a ka kb y z x A B (ka * a) cA (kb * a) cB p q ?_
          exact ⟨SD, h0, h1, h2, h3, (fun g1 => rfl), h5, h6, h7, h8⟩
        | 5, _ =>
          intro o ho l xs w1 hl hx hG hi hdep K hK
          obtain rfl := Option.some.inj (ho.symm.trans rfl)
          clear ho
          obtain ⟨l0, l1, l2, l3, l4, l5, l6, l7, l8, rfl⟩ := RW_b l hl
          obtain ⟨x0, x1, x2, x3, x4, x5, x6, x7, x8, rfl⟩ := RW_v xs hx
          obtain rfl : l5 = false := hi
          clear hdep hl hx
          dsimp only [setAll, List.set_cons_zero, List.set_cons_succ] at hK ⊢
          go_simp
          refine hK.out _ _ ?_
          clear hK K
          obtain ⟨SD, h0, h1, h2, h3, h4, h5, h6, h7, h8⟩ := RW_get w LF a ka kb y z x A B (ka * a) cA (kb * a) cB p q hG
          refine RW_mk w LF a ka kb y z x A B (ka * a) cA (kb * a) cB p q ?_
          exact ⟨SD, h0, h1, h2, h3, h4, (fun g1 => rfl), h6, h7, h8⟩
        | 6, _ =>
          intro o ho l xs w1 hl hx hG hi hdep K hK
          obtain rfl := Option.some.inj (ho.symm.trans rfl)
          clear ho
          obtain ⟨l0, l1, l2, l3, l4, l5, l6, l7, l8, rfl⟩ := RW_b l hl
          obtain ⟨x0, x1, x2, x3, x4, x5, x6, x7, x8, rfl⟩ := RW_v xs hx
          obtain rfl : l6 = false := hi
          clear hdep hl hx
          dsimp only [setAll, List.set_cons_zero, List.set_cons_succ] at hK ⊢
          go_simp
          refine hK.out _ _ ?_
          clear hK K
          obtain ⟨SD, h0, h1, h2, h3, h4, h5, h6, h7, h8⟩ := RW_get w LF a ka kb y z x A B (ka * a) cA (kb * a) cB p q hG
          refine RW_mk w LF a ka kb y z x A B (ka * a) cA (kb * a) cB p q ?_
          exact ⟨SD, h0, h1, h2, h3, h4, h5, (fun g1 => rfl), h7, h8⟩
        | 7, _ =>
          intro o ho l xs w1 hl hx hG hi hdep K hK
          obtain rfl := Option.some.inj (ho.symm.trans rfl)
          clear ho
          obtain ⟨l0, l1, l2, l3, l4, l5, l6, l7, l8, rfl⟩ := RW_b l hl
          obtain ⟨x0, x1, x2, x3, x4, x5, x6, x7, x8, rfl⟩ := RW_v xs hx
          obtain rfl : l7 = false := hi
          obtain rfl : l4 = true := hdep 4 (by kernel_rfl)
          obtain rfl : l5 = true := hdep 5 (by kernel_rfl)
          obtain rfl : l6 = true := hdep 6 (by kernel_rfl)
          clear hdep hl hx
          dsimp only [setAll, List.set_cons_zero, List.set_cons_succ] at hK ⊢
          have hf := RW_get w LF a ka kb y z x A B (ka * a) cA (kb * a) cB p q hG
          obtain rfl := (hf.2.2.2.2.2.1 rfl)
          obtain rfl := (hf.2.2.2.2.2.2.1 rfl)
          obtain rfl := (hf.2.2.2.2.2.2.2.1 rfl)
          have SX := hf.1
          clear hf
          go_simp
          refine (HB.out _ SX.below).mono ?_
          rintro e wz ⟨rfl, hbz⟩
          try go_simp
          refine hK.out _ _ ?_
          clear hK K
          obtain ⟨SD, h0, h1, h2, h3, h4, h5, h6, h7, h8⟩ := RW_get w LF a ka kb y z x A B (ka * a) cA (kb * a) cB p q hG
          have hb := hbz
          refine RW_mk w LF a ka kb y z x A B (ka * a) cA (kb * a) cB p q ?_
          exact ⟨SD.keep hb, (fun g1 => by obtain e := h0 g1; exact e), (fun g1 => by obtain e := h1 g1; exact e), (fun g1 => by obtain e := h2 g1; exact e), (fun g1 => by obtain e := h3 g1; exact e), (fun g1 => by obtain e := h4 g1; exact e), (fun g1 => by obtain e := h5 g1; exact e), (fun g1 => by obtain e := h6 g1; exact e), (fun g1 => rfl), (fun g1 => by obtain e := h8 g1; exact e)⟩
        | 8, _ =>
          intro o ho l xs w1 hl hx hG hi hdep K hK
          obtain rfl := Option.some.inj (ho.symm.trans rfl)
          clear ho
          obtain ⟨l0, l1, l2, l3, l4, l5, l6, l7, l8, rfl⟩ := RW_b l hl
          obtain ⟨x0, x1, x2, x3, x4, x5, x6, x7, x8, rfl⟩ := RW_v xs hx
          obtain rfl : l8 = false := hi
          obtain rfl : l3 = true := hdep 3 (by kernel_rfl)
          obtain rfl : l7 = true := hdep 7 (by kernel_rfl)
          clear hdep hl hx
          dsimp only [setAll, List.set_cons_zero, List.set_cons_succ] at hK ⊢
          have hf := RW_get w LF a ka kb y z x A B (ka * a) cA (kb * a) cB p q hG
          obtain rfl := (hf.2.2.2.2.1 rfl)
          obtain rfl := (hf.2.2.2.2.2.2.2.2.1 rfl)
          clear hf
          go_simp
          refine hK.out _ _ ?_
          clear hK K
          obtain ⟨SD, h0, h1, h2, h3, h4, h5, h6, h7, h8⟩ := RW_get w LF a ka kb y z x A B (ka * a) cA (kb * a) cB p q hG
          refine RW_mk w LF a ka kb y z x A B (ka * a) cA (kb * a) cB p q ?_
          exact ⟨SD, h0, h1, h2, h3, h4, h5, h6, h7, (fun g1 => rfl)⟩
        | k + 9, h => exact absurd h (by omega)
      · obtain ⟨x0, x1, x2, x3, x4, x5, x6, x7, x8, rfl⟩ := RW_v xs hx
        have hG : RW w LF a ka kb y z x A B (ka * a) cA (kb * a) cB p q [true, true, true, true, true, true, true, true, true] [x0, x1, x2, x3, x4, x5, x6, x7, x8] wf := hG
        have hf := RW_get w LF a ka kb y z x A B (ka * a) cA (kb * a) cB p q hG
        obtain rfl := (hf.2.2.2.2.2.2.2.2.2 rfl)
        have S2 := hf.1
        have S3 : St w [Fact.blk _ _ _, Fact.blk _ _ _] wf := hLF ▸ S2
        clear hf hG
        dsimp only [setAll, List.set_cons_zero, List.set_cons_succ]
        clear hLF S1 HA HB hx
        rcases p <;> rcases q
        all_goals
          go_wp2_with fail
          first
            | (go_ret
               exact ⟨ret_rows (decide_eq_false (HNE.out (by simp))).symm, S2.below⟩)
            | (go_roundw
               case rel => exact ⟨x + 1, by omega, by go_num, HPQ.out (by simp), S3⟩
               case measure => simp [intOf]; omega)
    · obtain rfl : x = a := by omega
      have HS := Lib.hid (HEQ.out HE.out)
      go_wp2_with fail
      go_ret
      exact ⟨ret_rows (decide_eq_true HS.out).symm, S1.below⟩
end Go.Proofs.Ytfjdlbilnoojkaa
