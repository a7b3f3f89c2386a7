/- Parts of the proof, in their order. -/
import Derived.Test.YtefeghpglacghaaViewz
import Derived.Test.YtefeghpglacghaaThrCz
import Derived.Test.YtefeghpglacghaaImCkz
import Derived.Test.YtefeghpglacghaaMg4z
import Derived.Test.YtefeghpglacghaaLibz
import Derived.Test.YtefeghpglacghaaStz
import Derived.Test.YtefeghpglacghaaMg2z
/- colour.Front: the side that is seen. -/
namespace Go.Proofs.Ytefeghpglacghaa
open Go.RowKit

set_option maxHeartbeats 1000000 in
theorem front_any (g : Gd) (p q : List Int) (A Ap Aq : Option Addr) (n c np cp nq cq : Nat) (w : World) (hr : Rd w A n (g.bits.map Value.bool)) (hrp : Rd w Ap np (p.map (Value.int .i64))) (hrq : Rd w Aq nq (q.map (Value.int .i64))) :
    Calls Try.prog 37 #[.agg #[.int .i64 g.w, .int .i64 g.h, .slice A n c], .slice Ap np cp, .slice Aq nq cq] w (RetI (frontI g p q) w) := by
  have lb : g.bits.length = n := by simpa using hr.len
  have lp : p.length = np := by simpa using hrp.len
  have lq : q.length = nq := by simpa using hrq.len
  have S0 := (((((((St.start w).addRd hr).addRd hrp).addRd hrq).box #[.int .i64 g.w, .int .i64 g.h, .slice A n c] 40).box #[.slice Ap np cp] 22).box #[.slice Aq nq cq] 22).box #[.int .i64 0, .int .i64 0, .slice none 0 0] 24
  simp only [size_alloc1, List.nil_append, List.cons_append] at S0
  obtain ⟨c0, c1, c2⟩ := (S0.blk 3 rfl).cell3
  have cp0 := (S0.blk 4 rfl).cell 0
  have cq0 := (S0.blk 5 rfl).cell 0
  have HT := Lib.hid (thr_any g p q A Ap Aq n c np cp nq cq _ lb (S0.rd 1 rfl) (S0.rd 2 rfl))
  by_cases h0 : thr g p q = 0
  · obtain ⟨a, b, bs, rfl, ha1, ha, hb1, hb, hl, hpa, hqb, _, _⟩ := thr_open h0
    have HC := Lib.hid (frontI_mk h0)
    rw [h0] at HT
    simp only at lb lp lq HT S0 c0 c1 c2 ⊢
    obtain rfl : n = b * a := by omega
    obtain rfl : np = a := by omega
    obtain rfl : nq = b := by omega
    clear h0 lb lp lq hl hpa hqb hr hrp hrq
    have hE := Proofs.enters_of Try.func67 (by kernel_rfl) rfl
    go_enter Try.func37, Try.ntmps37
    go_wp2_with fail
    refine HT.out.mono ?_
    rintro e w1 ⟨rfl, hb1⟩
    have S1 := S0.keep hb1
    clear c0 c1 c2 cp0 cq0 HT
    obtain ⟨c0, c1, c2⟩ := (S1.blk 3 rfl).cell3
    go_wp2_with fail
    refine (image_any 67 _ _ _ _ w1 ha hb hE (front1_gives _ _ _ _ _ A Ap Aq c cp cq bs p q w1 ha hb (S1.blk 3 rfl) (S1.blk 4 rfl) (S1.blk 5 rfl) (S1.rd 0 rfl) (S1.rd 1 rfl) (S1.rd 2 rfl))).mono ?_
    rintro e w2 ⟨A2, n2, c2', rfl, hown2, hb2⟩
    simp only at hown2 ⊢
    have S2 := S1.keep hb2
    have hR2 := S2.blk 6 rfl
    obtain ⟨r0, r1, r2⟩ := hR2.cell3
    obtain ⟨f0, f1, f2⟩ := hR2.frozen3
    obtain ⟨q0, q1, q2⟩ := (hR2.set3 (.int .i64 np) (.int .i64 nq) (.slice A2 n2 c2')).cell3
    clear c0 c1 c2
    go_wp2_with fail
    refine bodyPost_ret (v := .tuple #[.agg #[.int .i64 np, .int .i64 nq, .slice A2 n2 c2'], .int .i64 0]) (by simp [results, Try.results37, go_sem, q0, q1, q2]) rfl ?_
    refine ⟨A2, n2, c2', by rw [HC.out], ?_, below_set3 S2.below (by omega) _ _ _⟩
    rw [HC.out]
    exact own_set3 (own_base hown2 S1.size) hR2 (by decide) _ _ _
  · have hcb : (thr g p q != 0) = true := by simpa using h0
    have HC : Hid (frontI g p q = (Im.zero, thr g p q)) := withThr_bad h0 _
    clear h0 lb lp lq
    generalize thr g p q = t at *
    go_enter Try.func37, Try.ntmps37
    go_wp2_with fail
    refine HT.out.mono ?_
    rintro e w1 ⟨rfl, hb1⟩
    have S1 := S0.keep hb1
    clear c0 c1 c2 cp0 cq0 HT
    have hR2 := S1.blk 6 rfl
    obtain ⟨r0, r1, r2⟩ := hR2.cell3
    obtain ⟨f0, f1, f2⟩ := hR2.frozen3
    obtain ⟨q0, q1, q2⟩ := (hR2.set3 (.int .i64 0) (.int .i64 0) (.slice none 0 0)).cell3
    go_wp2_with fail
    refine bodyPost_ret (v := .tuple #[.agg #[.int .i64 0, .int .i64 0, .slice none 0 0], .int .i64 t]) (by simp [results, Try.results37, go_sem, q0, q1, q2]) rfl ?_
    exact bad_retI HC.out (below_set3 S1.below (by omega) _ _ _)

end Go.Proofs.Ytefeghpglacghaa
/- raddleref14.At gives a cell. -/
namespace Go.Proofs.Ytefeghpglacghaa
open Go.RowKit

theorem atI_any (a b x y : Nat) (X Y : Int) (hX : X = (x : Int)) (hY : Y = (y : Int)) (l : List Int) (H : Int) (A : Option Addr) (c : Nat) (w : World) (ha : a ≤ 64) (hb : b ≤ 64) (hx : x < a) (hy : y < b) (hr : Rd w A (b * a) (l.map (Value.int .i64))) :
    Calls Try.prog 56 #[.agg #[.int .i64 a, .int .i64 H, .slice A (b * a) c], .int .i64 X, .int .i64 Y] w fun e w' => e = .returned (.int .i64 (l.getD (y * a + x) 0)) ∧ Below w.heap.size w w' := by
  subst hX hY
  have hl : l.length = b * a := by simpa using hr.len
  have hlt := Pl.cell_lt (w := a) (h := b) hx hy
  have S0 := ((St.start w).addRd hr).box #[.int .i64 a, .int .i64 H, .slice A (b * a) c] 24
  simp only [List.nil_append, List.cons_append] at S0
  obtain ⟨i0, i1⟩ := mul_bound (p := (y : Int)) (q := (a : Int)) (by omega) (by omega) (by omega) (by omega)
  obtain ⟨bl, o, rfl, hbl, hc⟩ := (S0.rd 0 rfl).at_ (by omega)
  have hcell := int_read hl hlt hc
  generalize l.getD (y * a + x) 0 = p at hcell ⊢
  obtain ⟨c0, c1, c2⟩ := (S0.blk 1 rfl).cell3
  clear hr hc
  go_enter Try.func56, Try.ntmps56
  go_wp2
  go_ret
  exact ⟨rfl, S0.below⟩

theorem atI_to {v : Int} (a b x y : Nat) (X Y : Int) (l : List Int) (H : Int) (A : Option Addr) (c : Nat) (w : World) (h : l.getD (y * a + x) 0 = v) (hX : X = (x : Int)) (hY : Y = (y : Int)) (ha : a ≤ 64) (hb : b ≤ 64) (hx : x < a) (hy : y < b) (hr : Rd w A (b * a) (l.map (Value.int .i64))) :
    Calls Try.prog 56 #[.agg #[.int .i64 a, .int .i64 H, .slice A (b * a) c], .int .i64 X, .int .i64 Y] w fun e w' => e = .returned (.int .i64 v) ∧ Below w.heap.size w w' := h ▸ atI_any a b x y X Y hX hY l H A c w ha hb hx hy hr

end Go.Proofs.Ytefeghpglacghaa
/- A list of numbers and an error, in new memory. -/
namespace Go.Proofs.Ytefeghpglacghaa
open Go.RowKit
theorem own_le {w : World} {base : Nat} {e : TypeId} {A : Option Addr} {n c : Nat} {xs : List Value} (h : w.ownsRow base e 1 (.slice A n c) n xs) : n ≤ c := by
  obtain ⟨A', c', hv, h1, _⟩ := own_shape h
  injection hv with _ _ h3
  omega
def RetL (r : List Int × Int) (w : World) (e : Ending) (w' : World) : Prop :=
  ∃ A n c, e = .returned (.tuple #[.slice A n c, .int .i64 r.2]) ∧ w'.ownsRow w.heap.size 3 1 (.slice A n c) n (r.1.map (Value.int .i64)) ∧ Below w.heap.size w w'
theorem retL_bad {t : Int} {w w' : World} (hb : Below w.heap.size w w') : RetL ([], t) w (.returned (.tuple #[.slice none 0 0, .int .i64 t])) w' := ⟨none, 0, 0, rfl, World.ownsRow_nil _ _ _ _, hb⟩
end Go.Proofs.Ytefeghpglacghaa
