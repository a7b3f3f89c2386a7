/- picture.start makes the state in which nothing is known of the threads of an image; its function values give the image's cells. -/
import Derived.Test.YtmajmbfbnchbfaaMg11z
import Derived.Test.YtmajmbfbnchbfaaImCkz
import Derived.Test.YtmajmbfbnchbfaaGive15z
import Derived.Test.YtmajmbfbnchbfaaMg12z
import Derived.Laws.EntriesVeiled
namespace Go.Proofs.Ytmajmbfbnchbfaa
open Go.RowKit

theorem start1_gives (a b Bg : Nat) (A : Option Addr) (c : Nat) (l : List Int) (w : World) (ha : a ≤ 64) (hb : b ≤ 64)
    (hg : Blk w Bg 36 #[.int .i64 a, .int .i64 b, .slice A (b * a) c]) (hr : Rd w A (b * a) (l.map (Value.int .i64))) :
    GivesA 47 #[.pointer (some ⟨Bg, 0, none⟩)] a b (M2 a l 0) w.heap.size w := by
  intro w' x y hbel hx hy
  show Calls _ _ _ _ fun e w'' => e = .returned (.int .i64 (l.getD (y * a + x) 0)) ∧ Below w'.heap.size w' w''
  have hg' := hg.keep hbel
  have hr' := hr.below hbel
  have hl : l.length = b * a := by simpa using hr.len
  have hF : y * a + x < b * a := Pl.cell_lt hx hy
  obtain ⟨i0, i1⟩ := mul_bound (p := (y : Int)) (q := (a : Int)) (by omega) (by omega) (by omega) (by omega)
  obtain ⟨bl, o, rfl, hbl, hc⟩ := hr'.at_ (by omega)
  have hcell := int_read hl hF hc
  generalize l.getD (y * a + x) 0 = r at *
  obtain ⟨c0, c1, c2⟩ := hg'.cell3
  clear hg hr hg' hr' hc hl
  go_enter Try.func47, Try.ntmps47
  go_wp2
  go_ret
  exact ⟨rfl, Below.refl _ _⟩
theorem start2_gives (a b Bg : Nat) (A : Option Addr) (c : Nat) (l : List Int) (w : World) (ha : a ≤ 64) (hb : b ≤ 64)
    (hg : Blk w Bg 36 #[.int .i64 a, .int .i64 b, .slice A (b * a) c]) (hr : Rd w A (b * a) (l.map (Value.int .i64))) :
    GivesA 48 #[.pointer (some ⟨Bg, 0, none⟩)] b a (M2 a l 1) w.heap.size w := by
  intro w' y x hbel hy hx
  show Calls _ _ _ _ fun e w'' => e = .returned (.int .i64 (l.getD (y * a + x) 0)) ∧ Below w'.heap.size w' w''
  have hg' := hg.keep hbel
  have hr' := hr.below hbel
  have hl : l.length = b * a := by simpa using hr.len
  have hF : y * a + x < b * a := Pl.cell_lt hx hy
  obtain ⟨i0, i1⟩ := mul_bound (p := (y : Int)) (q := (a : Int)) (by omega) (by omega) (by omega) (by omega)
  obtain ⟨bl, o, rfl, hbl, hc⟩ := hr'.at_ (by omega)
  have hcell := int_read hl hF hc
  generalize l.getD (y * a + x) 0 = r at *
  obtain ⟨c0, c1, c2⟩ := hg'.cell3
  clear hg hr hg' hr' hc hl
  go_enter Try.func48, Try.ntmps48
  go_wp2
  go_ret
  exact ⟨rfl, Below.refl _ _⟩

/-- The first j numbers are -1. -/
def negs (j : Nat) : List Int := List.replicate j (-1) ++ List.replicate (64 - j) 0
theorem negs_len {j : Nat} (h : j ≤ 64) : (negs j).length = 64 := by simp [negs]; omega
theorem negs_set {j : Nat} (h : j < 64) : (negs j).set j (-1) = negs (j + 1) := by
  unfold negs
  rw [List.set_append_right _ _ (by simp), List.length_replicate, Nat.sub_self, show 64 - j = (64 - (j + 1)) + 1 by omega, List.replicate_succ, List.set_cons_zero, List.replicate_succ' (n := j), List.append_assoc]
  rfl
theorem negs_all : negs 64 = List.replicate 64 (-1) := by simp [negs]
theorem negs_none : negs 0 = List.replicate 64 0 := by simp [negs]

section
variable {P : Program}
theorem grown_cells (w : World) (g o : Nat) (vs : List Value) : w.grownBy (w.setCells g o vs) (some g) := grown_setCells vs o w w ⟨rfl, rfl, rfl, Nat.le_refl _, fun _ _ _ => rfl⟩
/-- A side is stored. -/
theorem wpList_side {ops : Array Oper} {rest : List Oper} {o : Oper} {a : Act} {w : World} {Q : Exit → Act → World → Prop} (hgd : o.guard = none) (ty : TypeId) (x y : Operand) (ho : o.op = .store ty x y)
    (g off : Nat) (u v : Value) (hx : a.eval x = .pointer (some ⟨g, off, none⟩)) (hy : a.eval y = .agg #[u, v]) (t : TypeId) (old : Array Value) (hg : Blk w g t old) (hoff : off + 2 ≤ old.size) (hi : (P.info? ty).map (·.size) = some 2)
    (h1 : (#[u, v] : Array Value).all (·.oneCell') = true)
    (h : ∀ w2, Blk w2 g t ((old.setIfInBounds off u).setIfInBounds (off + 1) v) → w.grownBy w2 (some g) → wpList P ops Q rest (a.put o.dst undef) w2) : wpList P ops Q (o :: rest) a w :=
  wpList_store_mid hgd ty x y ho g off #[u, v] hx hy (fun j hj => ⟨by
    rw [hg.cell]
    have : off + j < old.size := by simp at hj; omega
    simp [this], hg.frozen _⟩) hi h1 (h _ (Blk.set_ (Blk.set_ hg off u) (off + 1) v) (grown_cells w g off [u, v]))
end
theorem Try.infoSide : (Try.prog.info? 72).map (·.size) = some 2 := by kernel_rfl
theorem stL_side0 {a b : Nat} {F0 F1 : Value} {p q : List Int} (a' : Nat) (F : Value) : ((stL a b F0 F1 p q).toArray.setIfInBounds 0 (.int .i64 a')).setIfInBounds 1 F = (stL a' b F F1 p q).toArray := by
  rw [List.setIfInBounds_toArray, List.setIfInBounds_toArray]
  rfl
theorem stL_side1 {a b : Nat} {F0 F1 : Value} {p q : List Int} (hp : p.length = 64) (b' : Nat) (F : Value) : ((stL a b F0 F1 p q).toArray.setIfInBounds 66 (.int .i64 b')).setIfInBounds 67 F = (stL a b' F0 F p q).toArray := by
  rw [List.setIfInBounds_toArray, List.setIfInBounds_toArray]
  congr 1
  unfold stL
  rw [List.set_append_right _ _ (by simp; omega), List.set_append_right _ _ (by simp; omega)]
  simp [hp]

set_option linter.unusedVariables false in
set_option maxHeartbeats 4000000 in
set_option maxRecDepth 100000 in
theorem start_any (a b : Nat) (A : Option Addr) (n c : Nat) (w : World) :
    Calls Try.prog 33 #[.agg #[.int .i64 a, .int .i64 b, .slice A n c]] w fun e w' => ∃ mB : Nat,
      e = .returned (.agg (stL a b (.func (.func 47) #[] #[.pointer (some ⟨mB, 0, none⟩)]) (.func (.func 48) #[] #[.pointer (some ⟨mB, 0, none⟩)]) (List.replicate 64 (-1)) (List.replicate 64 (-1))).toArray) ∧
      Blk w' mB 36 #[.int .i64 a, .int .i64 b, .slice A n c] ∧ w.heap.size ≤ mB ∧ Below w.heap.size w w' := by
  have hz := (zero_of_info Try.infoState).1
  have S0 := (((St.start w).box #[.int .i64 a, .int .i64 b, .slice A n c] 36).box (stL 0 0 .nilFunc .nilFunc (List.replicate 64 0) (List.replicate 64 0)).toArray 77).box (stL 0 0 .nilFunc .nilFunc (List.replicate 64 0) (List.replicate 64 0)).toArray 77
  simp only [size_alloc1, List.nil_append, List.cons_append] at S0
  rw [← negs_none] at hz S0
  obtain ⟨zs, hzs⟩ : ∃ zs, (stL 0 0 .nilFunc .nilFunc (negs 0) (negs 0)).toArray = zs := ⟨_, rfl⟩
  have HZ := Lib.hid hzs
  rw [hzs] at hz S0
  clear hzs
  have hz132 : zs.size = 132 := by rw [← HZ.out, List.size_toArray, stL_length (negs_len (by omega)) (negs_len (by omega))]
  obtain ⟨c0, c1, c2⟩ := (S0.blk 0 rfl).cell3
  have z0 : zs[0]? = some (.int .i64 0) := by rw [← HZ.out]; rfl
  have z1 : zs[1]? = some .nilFunc := by rw [← HZ.out]; rfl
  have z66 : zs[66]? = some (.int .i64 0) := by rw [← HZ.out, List.getElem?_toArray]; exact stL_66 (negs_len (by omega))
  have z67 : zs[67]? = some .nilFunc := by rw [← HZ.out, List.getElem?_toArray]; exact stL_67 (negs_len (by omega))
  have HG := Lib.hid hz132
  clear hz132
  go_enter Try.func33, Try.ntmps33
  go_wp2_with fail
  have S2 := (((St.start w).box #[.int .i64 a, .int .i64 b, .slice A n c] 36).box zs 77).box ((((zs.setIfInBounds 0 (.int .i64 a)).setIfInBounds 1 (.func (.func 47) #[] #[.pointer (some ⟨w.heap.size, 0, none⟩)])).setIfInBounds 66 (.int .i64 b)).setIfInBounds 67 (.func (.func 48) #[] #[.pointer (some ⟨w.heap.size, 0, none⟩)])) 77
  simp only [size_alloc1, List.nil_append, List.cons_append] at S2
  have hS2 := S2.blk 2 rfl
  have hz2 := S2.blk 1 rfl
  have hm2 := S2.blk 0 rfl
  have hB2 := S2.below
  have hzz : ((((zs.setIfInBounds 0 (.int .i64 a)).setIfInBounds 1 (.func (.func 47) #[] #[.pointer (some ⟨w.heap.size, 0, none⟩)])).setIfInBounds 66 (.int .i64 b)).setIfInBounds 67 (.func (.func 48) #[] #[.pointer (some ⟨w.heap.size, 0, none⟩)])) = (stL a b (.func (.func 47) #[] #[.pointer (some ⟨w.heap.size, 0, none⟩)]) (.func (.func 48) #[] #[.pointer (some ⟨w.heap.size, 0, none⟩)]) (negs 0) (negs 0)).toArray := by
    rw [← HZ.out, stL_side0, stL_side1 (negs_len (by omega))]
  have key : ∀ W : World, Blk W (w.heap.size + 1 + 1) 77 ((((zs.setIfInBounds 0 (.int .i64 a)).setIfInBounds 1 (.func (.func 47) #[] #[.pointer (some ⟨w.heap.size, 0, none⟩)])).setIfInBounds 66 (.int .i64 b)).setIfInBounds 67 (.func (.func 48) #[] #[.pointer (some ⟨w.heap.size, 0, none⟩)])) → StB W (w.heap.size + 1 + 1) 77 a b (.func (.func 47) #[] #[.pointer (some ⟨w.heap.size, 0, none⟩)]) (.func (.func 48) #[] #[.pointer (some ⟨w.heap.size, 0, none⟩)]) (negs 0) (negs 0) := fun W h => by
    show Blk _ _ _ _
    rw [← hzz]; exact h
  replace hS2 := key _ hS2
  have hzw := Lib.hid hzz
  clear key hzz S2 S0 c0 c1 c2 z0 z1 z66 z67
  go_loopw [18] (fun v wr => ∃ k : Nat, k ≤ 2 ∧ v = .int .i64 k ∧ StB wr (w.heap.size + 1 + 1) 77 a b (.func (.func 47) #[] #[.pointer (some ⟨w.heap.size, 0, none⟩)]) (.func (.func 48) #[] #[.pointer (some ⟨w.heap.size, 0, none⟩)]) (negs (64 * min k 1)) (negs (64 * (k - 1))) ∧ Blk wr (w.heap.size + 1) 77 zs ∧ Blk wr w.heap.size 36 #[.int .i64 a, .int .i64 b, .slice A n c] ∧ Below w.heap.size w wr)
    (fun v _ => 2 - (intOf v).toNat)
  case atStart => exact ⟨0, by omega, rfl, hS2, hz2, hm2, hB2⟩
  case round =>
    clear hS2 hz2 hm2 hB2
    obtain ⟨k, hk, rfl, hS, hz2, hm, hB⟩ := hrel
    have hk3 : k = 2 ∨ k = 0 ∨ k = 1 := by omega
    rcases hk3 with rfl | rfl | rfl
    · go_wp2_with (first
        | (refine wpList_load_row rfl 77 (.tmp 3) rfl (w.heap.size + 1 + 1) rfl 77 _ (0, 0) _ hS Try.underlying77 rfl (size_state (negs_len (by omega)) (negs_len (by omega))) ?_)
        | (refine wpList_store_all rfl 77 (.tmp 2) (.tmp 31) rfl (w.heap.size + 1) _ rfl rfl 77 _ hz2 (size_state (negs_len (by omega)) (negs_len (by omega))) (by rw [HG.out, List.size_toArray, stL_length (negs_len (by omega)) (negs_len (by omega))]) one_state ?_; intro w5 hS5 hgr5)
        | fail)
      rw [show negs (64 * min 2 1) = List.replicate 64 (-1) from negs_all, show negs (64 * (2 - 1)) = List.replicate 64 (-1) from negs_all] at hS5
      refine bodyPost_ret (v := .agg _) (results_cell_row rfl _ _ (w.heap.size + 1) 77 _ (0, 0) _ rfl hS5 Try.underlying77 rfl (size_state (by simp) (by simp))) rfl ?_
      exact ⟨w.heap.size, rfl, hm.grown hgr5 (by simp), Nat.le_refl _, hB.grown hgr5 hB.size (fun k hk => by injection hk with hk; omega)⟩
    · rw [show ((0 : Nat) : Int) = 0 from rfl]
      go_wp2_with fail
      go_loopw [21] (fun v wr => ∃ i : Nat, i ≤ 64 ∧ v = .int .i64 i ∧ StB wr (w.heap.size + 1 + 1) 77 a b (.func (.func 47) #[] #[.pointer (some ⟨w.heap.size, 0, none⟩)]) (.func (.func 48) #[] #[.pointer (some ⟨w.heap.size, 0, none⟩)]) (negs i) (negs 0) ∧ Blk wr (w.heap.size + 1) 77 zs ∧ Blk wr w.heap.size 36 #[.int .i64 a, .int .i64 b, .slice A n c] ∧ Below w.heap.size w wr)
        (fun v _ => 64 - (intOf v).toNat)
      case atStart => exact ⟨0, by omega, rfl, hS, hz2, hm, hB⟩
      case round =>
        clear hS hz2 hm hB
        obtain ⟨i, hi, rfl, hS, hz2, hm, hB⟩ := hrel
        by_cases hlt : i < 64
        · have s1 := StB.cell hS (2 + i) (stL_p (negs_len (by omega)) hlt)
          have hfr := Blk.frozen hS (2 + i)
          have hS2 : StB (wr.setCell ⟨w.heap.size + 1 + 1, 2 + i, none⟩ (.int .i64 (-1))) (w.heap.size + 1 + 1) 77 a b (.func (.func 47) #[] #[.pointer (some ⟨w.heap.size, 0, none⟩)]) (.func (.func 48) #[] #[.pointer (some ⟨w.heap.size, 0, none⟩)]) (negs (i + 1)) (negs 0) := by have h := StB.setp (i := i) hS (negs_len (by omega)) hlt (-1); rw [negs_set hlt] at h; exact h
          have hz3 := Blk.far hz2 (p := ⟨w.heap.size + 1 + 1, 2 + i, none⟩) (by simp) (.int .i64 (-1))
          have hm3 := Blk.far hm (p := ⟨w.heap.size + 1 + 1, 2 + i, none⟩) (by simp; omega) (.int .i64 (-1))
          have hB3 := Below.setCell hB (p := ⟨w.heap.size + 1 + 1, 2 + i, none⟩) (by simp; omega) (.int .i64 (-1))
          clear hS hz2 hm hB
          go_wp2_with fail
          go_roundw
          case rel => exact ⟨i + 1, by omega, by go_num, hS2, hz3, hm3, hB3⟩
          case measure => simp [intOf]; omega
        · obtain rfl : i = 64 := by omega
          go_wp2_with fail
          go_roundw
          case rel => exact ⟨1, by omega, by go_num, hS, hz2, hm, hB⟩
          case measure => simp [intOf]
    · rw [show ((1 : Nat) : Int) = 1 from rfl]
      go_wp2_with fail
      go_loopw [21] (fun v wr => ∃ i : Nat, i ≤ 64 ∧ v = .int .i64 i ∧ StB wr (w.heap.size + 1 + 1) 77 a b (.func (.func 47) #[] #[.pointer (some ⟨w.heap.size, 0, none⟩)]) (.func (.func 48) #[] #[.pointer (some ⟨w.heap.size, 0, none⟩)]) (negs 64) (negs i) ∧ Blk wr (w.heap.size + 1) 77 zs ∧ Blk wr w.heap.size 36 #[.int .i64 a, .int .i64 b, .slice A n c] ∧ Below w.heap.size w wr)
        (fun v _ => 64 - (intOf v).toNat)
      case atStart => exact ⟨0, by omega, rfl, hS, hz2, hm, hB⟩
      case round =>
        clear hS hz2 hm hB
        obtain ⟨i, hi, rfl, hS, hz2, hm, hB⟩ := hrel
        by_cases hlt : i < 64
        · have s1 := StB.cell hS (68 + i) (stL_q (negs_len (by omega)) (negs_len (by omega)) hlt)
          have hfr := Blk.frozen hS (68 + i)
          have hS2 : StB (wr.setCell ⟨w.heap.size + 1 + 1, 68 + i, none⟩ (.int .i64 (-1))) (w.heap.size + 1 + 1) 77 a b (.func (.func 47) #[] #[.pointer (some ⟨w.heap.size, 0, none⟩)]) (.func (.func 48) #[] #[.pointer (some ⟨w.heap.size, 0, none⟩)]) (negs 64) (negs (i + 1)) := by have h := StB.setq (i := i) hS (negs_len (by omega)) (-1); rw [negs_set hlt] at h; exact h
          have hz3 := Blk.far hz2 (p := ⟨w.heap.size + 1 + 1, 68 + i, none⟩) (by simp) (.int .i64 (-1))
          have hm3 := Blk.far hm (p := ⟨w.heap.size + 1 + 1, 68 + i, none⟩) (by simp; omega) (.int .i64 (-1))
          have hB3 := Below.setCell hB (p := ⟨w.heap.size + 1 + 1, 68 + i, none⟩) (by simp; omega) (.int .i64 (-1))
          clear hS hz2 hm hB
          go_wp2_with fail
          go_roundw
          case rel => exact ⟨i + 1, by omega, by go_num, hS2, hz3, hm3, hB3⟩
          case measure => simp [intOf]; omega
        · obtain rfl : i = 64 := by omega
          go_wp2_with fail
          go_roundw
          case rel => exact ⟨2, by omega, by go_num, hS, hz2, hm, hB⟩
          case measure => simp [intOf]
end Go.Proofs.Ytmajmbfbnchbfaa
