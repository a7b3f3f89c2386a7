/- colour.Parse reads the text of an image; a text of at most 1,048,576 bytes. -/
import Derived.RangeFuncNested
import Derived.RangeFuncBound
import Derived.RangeFuncCalls
import Derived.RangeFuncLeaves
import Derived.RangeFuncBox
import Derived.Maps.AppendAt
import Derived.Shelf.Abstract
import Derived.Shelf.RegionOpen
import Derived.WalkKit
import Derived.OwnWalkIn
import Derived.TacticsInMore
import Derived.LoopNIn
import Derived.LoopIn
import Derived.Lib.ConvBytes
import Derived.Test.YtpfonniepinjnaaDoorBackw
import Derived.Test.YtpfonniepinjnaaDoorIParP
import Derived.Test.YtpfonniepinjnaaDoorImCk
import Derived.Test.YtpfonniepinjnaaDoorInfoI
namespace Go.Proofs.YtpfonniepinjnaaDoor
open Go.RowKit Go.Shelf

attribute [local go_sem] Oper.semAt_some

theorem blk_kept {W W' : World} {g : Nat} {t : TypeId} {cs : Array Value} {row : Option Nat} (hb : Blk W g t cs) (hg : W.grownBy W' row) (hr : ∀ r, row = some r → ∃ o : Obj, W.heap[r]? = some o ∧ o.isCells = false) : Blk W' g t cs :=
  Blk.grown hb hg fun e => by
    obtain ⟨o, ho, hc⟩ := hr _ e.symm
    have := (show W.heap[g]? = _ from hb).symm.trans ho
    injection this with e1
    subst e1
    simp [Obj.isCells] at hc
theorem own_kept {W W' : World} {base n c : Nat} {e : TypeId} {A : Option Addr} {xs : List Value} {row : Option Nat} (h : W.ownsRow base e 1 (.slice A n c) n xs) (hg : W.grownBy W' row) (hr : ∀ r, row = some r → ∃ o : Obj, W.heap[r]? = some o ∧ o.isCells = false) : W'.ownsRow base e 1 (.slice A n c) n xs := by
  refine h.kept hg ?_
  rcases h.2 with ⟨h0, _⟩ | ⟨g, cap, cur, hv, _, hh, _⟩
  · rw [h0]; simp [Value.ownBlock]
  · refine Or.inr fun e' => ?_
    rw [hv] at e'
    obtain ⟨o, ho, hc⟩ := hr g (by first | simpa [Value.ownBlock] using e' | simpa [Value.ownBlock] using e'.symm)
    rw [hh] at ho
    injection ho with e1
    subst e1
    simp [Obj.isCells] at hc

/-- What colour.Parse has in memory while it reads the lines. -/
structure PM (w : World) (R : List (List UInt8)) (Wd : Nat) (A : Option Addr) (T cp : Nat) (cs : List Int) (W : World) : Prop where
  res : Blk W w.heap.size 24 #[.int .i64 0, .int .i64 0, .slice none 0 0]
  err : Blk W (w.heap.size + 1) 25 #[.int .i64 0]
  rows : Blk W (w.heap.size + 1 + 1) 9 (R.map str).toArray
  img : Blk W (w.heap.size + 1 + 1 + 1) 24 #[.int .i64 Wd, .int .i64 R.length, .slice A T cp]
  box : Blk W (w.heap.size + 1 + 1 + 1 + 1) 50 #[.slice (some ⟨w.heap.size + 1 + 1, 0, none⟩) R.length R.length]
  own : W.ownsRow w.heap.size 3 1 (.slice A T cp) T (cs.map (Value.int .i64))
  below : Below w.heap.size w W
theorem PM.kept {w W W' : World} {R : List (List UInt8)} {Wd T cp B : Nat} {A : Option Addr} {cs : List Int} {row : Option Nat} (h : PM w R Wd A T cp cs W) (hg : W.grownBy W' row) (hB : w.heap.size ≤ B)
    (hr : ∀ r, row = some r → B ≤ r ∧ ∃ o : Obj, W.heap[r]? = some o ∧ o.isCells = false) : PM w R Wd A T cp cs W' :=
  have hr' : ∀ r, row = some r → ∃ o : Obj, W.heap[r]? = some o ∧ o.isCells = false := fun r e => (hr r e).2
  ⟨blk_kept h.res hg hr', blk_kept h.err hg hr', blk_kept h.rows hg hr', blk_kept h.img hg hr', blk_kept h.box hg hr', own_kept h.own hg hr', h.below.grown hg h.below.size fun k e => Nat.le_trans hB (hr k e).1⟩
def flatC (RR : List (List UInt8)) {n : Nat} (pre : List (Fin n)) : List Int := pre.flatMap fun x => colsC (lineAt RR x.1)

theorem PM.keep {w W W' : World} {R : List (List UInt8)} {Wd T cp : Nat} {A : Option Addr} {cs : List Int} (h : PM w R Wd A T cp cs W) (hb : Below W.heap.size W W') : PM w R Wd A T cp cs W' :=
  ⟨h.res.keep hb, h.err.keep hb, h.rows.keep hb, h.img.keep hb, h.box.keep hb, own_below h.own hb, below_then h.below hb⟩
theorem flatC_len {R : List (List UInt8)} {Wd n : Nat} : ∀ (pre : List (Fin n)), (∀ x ∈ pre, (lineAt R x.1).length = Wd) → (flatC R pre).length = pre.length * Wd
  | [], _ => by simp [flatC]
  | x :: pre, h => by
    have ih := flatC_len pre fun y hy => h y (List.mem_cons_of_mem _ hy)
    have h1 := h x List.mem_cons_self
    show (colsC (lineAt R x.1) ++ flatC R pre).length = _
    rw [List.length_append, ih, colsC_len, h1, List.length_cons, Nat.succ_mul, Nat.add_comm]
/-- A block that holds the bytes of a line. -/
def Byt (W : World) (g : Nat) (row : List UInt8) : Prop := ∃ cs fz, W.heap[g]? = some (.cells cs 5 fz) ∧ ∀ j, j < row.length → cs[j]? = some (.int .u8 ((row.getD j 0).toNat : Int))
theorem Byt.cell {W : World} {g j : Nat} {row : List UInt8} (h : Byt W g row) (hj : j < row.length) : W.cell? ⟨g, j, none⟩ = some (.int .u8 ((row.getD j 0).toNat : Int)) := by
  obtain ⟨cs, fz, h1, h2⟩ := h
  rw [cell_of_row W g j cs _ fz h1, h2 j hj]
theorem Byt.lt {W : World} {g : Nat} {row : List UInt8} (h : Byt W g row) : g < W.heap.size := by
  obtain ⟨cs, fz, h1, _⟩ := h
  exact (Array.getElem?_eq_some_iff.1 h1).1
theorem Byt.same {W W' : World} {g : Nat} {row : List UInt8} (h : Byt W g row) (e : W'.heap[g]? = W.heap[g]?) : Byt W' g row := by
  obtain ⟨cs, fz, h1, h2⟩ := h
  exact ⟨cs, fz, e.trans h1, h2⟩
theorem Byt.not_row {W : World} {g base n : Nat} {v : Value} {row : List UInt8} {xs : List Value} (h : Byt W g row) (ho : W.ownsRow base 3 1 v n xs) : some g ≠ v.ownBlock := by
  obtain ⟨cs, fz, h1, _⟩ := h
  rcases ho.2 with ⟨h0, _⟩ | ⟨g', cap, cur, hv, _, hh, _⟩
  · rw [h0]; simp [Value.ownBlock]
  · intro e
    rw [hv] at e
    obtain rfl : g = g' := by simpa [Value.ownBlock] using e
    rw [h1] at hh
    injection hh with e1
    injection e1 with _ e2 _
    exact absurd e2 (by decide)
theorem conv_any (row : List UInt8) (W : World) : ∃ W5 c, (convert 9 57 (str row)).run Tryd.prog W = .ok (.slice (some ⟨W.heap.size, 0, none⟩) row.length c) W5 ∧ Below W.heap.size W W5 ∧ Byt W5 W.heap.size row ∧ KeepsOthers W W5 := by
  have h := Lib.run_convert_string_bytes (P := Tryd.prog) W 9 57 5 ⟨row.toArray⟩ (u := .string) Tryd.underlying9 Tryd.underlying57 Tryd.underlying5
  rw [size_list] at h
  have hb : Below W.heap.size W (Lib.bytesWorld W 5 ⟨row.toArray⟩) := ⟨rfl, rfl, rfl, by rw [Lib.bytesWorld_size]; omega, fun k hk => Lib.bytesWorld_at_old W _ _ k hk⟩
  refine ⟨_, _, h, hb, ⟨_, _, Lib.bytesWorld_at_new W _ _, fun j hj => ?_⟩, KeepsOthers.of_grownBy (below_grown hb none) (fun j o e => by cases e)⟩
  have := Lib.bytesWorld_cell W 5 ⟨row.toArray⟩ j (by rw [size_list]; exact hj)
  rw [cell_of_row _ _ j _ _ _ (Lib.bytesWorld_at_new W _ _)] at this
  exact this
theorem PM.app {w W w3 : World} {R : List (List UInt8)} {Wd T cp g' cp' : Nat} {A : Option Addr} {cs : List Int} {x : Int} (h : PM w R Wd A T cp cs W) (o : Obj)
    (hown3 : w3.ownsRow w.heap.size 3 1 (.slice (some ⟨g', 0, none⟩) (T + 1) cp') (T + 1) (cs.map (Value.int .i64) ++ [.int .i64 x])) (hgr : (W.alloc o).grownBy w3 (Value.slice A T cp).ownBlock) :
    PM w R Wd (some ⟨g', 0, none⟩) (T + 1) cp' (cs ++ [x]) (w3.setCell ⟨w.heap.size + 1 + 1 + 1, 2, none⟩ (.slice (some ⟨g', 0, none⟩) (T + 1) cp')) := by
  have a1 := Blk.grown (h.res.alloc o) hgr (own_blk_ne h.own h.res (by decide))
  have a2 := Blk.grown (h.err.alloc o) hgr (own_blk_ne h.own h.err (by decide))
  have a3 := Blk.grown (h.rows.alloc o) hgr (own_blk_ne h.own h.rows (by decide))
  have a4 := Blk.grown (h.img.alloc o) hgr (own_blk_ne h.own h.img (by decide))
  have a5 := Blk.grown (h.box.alloc o) hgr (own_blk_ne h.own h.box (by decide))
  have b3 := Below.grown (h.below.alloc h.below.size o) hgr (by have := h.below.size; simp; omega) (fun k hk => (h.own.lt k hk).1)
  refine ⟨a1.far (by simp; omega) _, a2.far (by simp) _, a3.far (by simp) _, by simpa using a4.set_ 2 _, a5.far (by simp) _, ?_, b3.setCell (by simp; omega) _⟩
  rw [List.map_append]
  exact own_far hown3 (own_blk_ne hown3 a4 (by decide)) _
theorem keeps_app {W w3 : World} {base n c : Nat} {A : Option Addr} {xs : List Value} (h : W.ownsRow base 3 1 (.slice A n c) n xs) (o : Obj) (hgr : (W.alloc o).grownBy w3 (Value.slice A n c).ownBlock) (b i : Nat) (v : Value) : KeepsOthers W (w3.setCell ⟨b, i, none⟩ v) := by
  refine ((KeepsOthers.alloc W o).trans (KeepsOthers.of_grownBy hgr fun j o' e ho => ?_)).trans (KeepsOthers.setCell _ _ _)
  rcases (h.alloc o).2 with ⟨h0, _⟩ | ⟨g, cap, cur, hv, _, hh, _⟩
  · rw [h0] at e; simp [Value.ownBlock] at e
  · rw [hv] at e
    obtain rfl : g = j := by simpa [Value.ownBlock] using e
    rw [hh] at ho
    injection ho with e1
    subst e1
    rfl
theorem lineAt_mem {R : List (List UInt8)} {k : Nat} (h : k < R.length) : lineAt R k ∈ R := by
  unfold lineAt
  rw [List.getD_eq_getElem?_getD, List.getElem?_eq_getElem (by simpa using h), Option.getD_some]
  exact List.mem_reverse.1 (List.getElem_mem _)
theorem lines_all {R : List (List UInt8)} {Wd : Nat} (h : ∀ x ∈ firstF R.length R.length, (lineAt R x.1).length = Wd) : ∀ l ∈ R, l.length = Wd := fun l hl => by
  obtain ⟨i, hi, e⟩ := List.getElem_of_mem (List.mem_reverse.2 hl)
  have := h ⟨i, by simpa using hi⟩ (firstF_all _ _ (by simpa using hi))
  unfold lineAt at this
  rw [List.getD_eq_getElem?_getD, List.getElem?_eq_getElem hi, Option.getD_some, e] at this
  exact this
theorem flatC_all (R : List (List UInt8)) : flatC R (firstF R.length R.length) = cellsC R := by
  unfold flatC cellsC
  rw [firstF_flat (fun i => colsC (lineAt R i)) (R.reverse.map colsC) (by simp) (fun i hi => ?_), ← List.flatMap_def]
  unfold lineAt
  rw [List.getD_eq_getElem?_getD, List.getD_eq_getElem?_getD, List.getElem?_map, List.getElem?_eq_getElem (by simpa using hi)]
  rfl
theorem PM.fin {w W : World} {R : List (List UInt8)} {Wd T cp : Nat} {A : Option Addr} {cs : List Int} (h : PM w R Wd A T cp cs W) (a b e : Int) (A' : Option Addr) (n' c' D : Nat) (hD : w.heap.size + 5 ≤ D) (hK : W.heap[D]? = some (.deferred (some []))) :
    ∃ W', ((((W.setCell ⟨w.heap.size, 0, none⟩ (.int .i64 a)).setCell ⟨w.heap.size, 1, none⟩ (.int .i64 b)).setCell ⟨w.heap.size, 2, none⟩ (.slice A' n' c')).setCell ⟨w.heap.size + 1, 0, none⟩ (.int .i64 e)) = W' ∧ W'.heap[D]? = some (.deferred (some [])) ∧
      ∃ W2, W2 = W'.putObj D (.deferred none) ∧ Blk W2 w.heap.size 24 #[.int .i64 a, .int .i64 b, .slice A' n' c'] ∧ Blk W2 (w.heap.size + 1) 25 #[.int .i64 e] ∧ W2.ownsRow w.heap.size 3 1 (.slice A T cp) T (cs.map (Value.int .i64)) ∧ Below w.heap.size w W2 := by
  have h1 := (h.res.set3 (.int .i64 a) (.int .i64 b) (.slice A' n' c')).far (p := ⟨w.heap.size + 1, 0, none⟩) (by simp) (.int .i64 e)
  have h2 := (((h.err.far (p := ⟨w.heap.size, 0, none⟩) (by simp) (.int .i64 a)).far (p := ⟨w.heap.size, 1, none⟩) (by simp) (.int .i64 b)).far (p := ⟨w.heap.size, 2, none⟩) (by simp) (.slice A' n' c'))
  have h3 := own_set3 h.own h.res (by decide) (.int .i64 a) (.int .i64 b) (.slice A' n' c')
  have h4 := own_far h3 (p := ⟨w.heap.size + 1, 0, none⟩) (own_blk_ne h3 h2 (by decide)) (.int .i64 e)
  have h5 := (below_set3 h.below (Nat.le_refl _) (.int .i64 a) (.int .i64 b) (.slice A' n' c')).setCell (p := ⟨w.heap.size + 1, 0, none⟩) (by simp) (.int .i64 e)
  have h6 := (Below.heap_setCell ((((W.setCell ⟨w.heap.size, 0, none⟩ (.int .i64 a)).setCell ⟨w.heap.size, 1, none⟩ (.int .i64 b)).setCell ⟨w.heap.size, 2, none⟩ (.slice A' n' c'))) ⟨w.heap.size + 1, 0, none⟩ (.int .i64 e) D (by simp; omega)).trans
    ((Below.heap_setCell ((W.setCell ⟨w.heap.size, 0, none⟩ (.int .i64 a)).setCell ⟨w.heap.size, 1, none⟩ (.int .i64 b)) ⟨w.heap.size, 2, none⟩ (.slice A' n' c') D (by simp; omega)).trans
    ((Below.heap_setCell (W.setCell ⟨w.heap.size, 0, none⟩ (.int .i64 a)) ⟨w.heap.size, 1, none⟩ (.int .i64 b) D (by simp; omega)).trans ((Below.heap_setCell W ⟨w.heap.size, 0, none⟩ (.int .i64 a) D (by simp; omega)).trans hK)))
  have h2' := h2.set_ 0 (.int .i64 e)
  rw [show (#[Value.int .i64 0] : Array Value).setIfInBounds 0 (.int .i64 e) = #[.int .i64 e] from rfl] at h2'
  refine ⟨_, rfl, h6, _, rfl, ?_⟩
  have hg := grownBy_putObj' ((((W.setCell ⟨w.heap.size, 0, none⟩ (.int .i64 a)).setCell ⟨w.heap.size, 1, none⟩ (.int .i64 b)).setCell ⟨w.heap.size, 2, none⟩ (.slice A' n' c')).setCell ⟨w.heap.size + 1, 0, none⟩ (.int .i64 e)) D (.deferred none)
  have hgc : ∀ r, some D = some r → ∃ o : Obj, ((((W.setCell ⟨w.heap.size, 0, none⟩ (.int .i64 a)).setCell ⟨w.heap.size, 1, none⟩ (.int .i64 b)).setCell ⟨w.heap.size, 2, none⟩ (.slice A' n' c')).setCell ⟨w.heap.size + 1, 0, none⟩ (.int .i64 e)).heap[r]? = some o ∧ o.isCells = false := fun r e => by cases e; exact ⟨_, h6, rfl⟩
  exact ⟨blk_kept h1 hg hgc, blk_kept h2' hg hgc, own_kept h4 hg hgc, h5.trans (belowK_b (w := w) (Nat.le_refl _) _ D _ _ (by omega) h6 rfl rfl)⟩
theorem St.worldF {w w1 : World} {L : List Fact} (_ : St w L w1) : ∃ x, x = w1 := ⟨w1, rfl⟩
set_option maxHeartbeats 4000000 in
set_option maxRecDepth 100000 in
theorem iparse_lines (s : List UInt8) (w : World) (hs : s.length ≤ 1048576) (h : Lib.hasSuffix s [10] = true) (h64 : (spl (Lib.trimSuffix s [10])).length ≤ 64) :
    Calls Tryd.prog 6 #[str s] w (RetI (imgL (spl (Lib.trimSuffix s [10]))) w) := by
  obtain ⟨i0, hi, hz0, hz1, hz2⟩ := info_parts Tryd.infoI
  have S0 := ((St.start w).box #[.int .i64 0, .int .i64 0, .slice none 0 0] 24).box #[.int .i64 0] 25
  simp only [size_alloc1, List.nil_append, List.cons_append] at S0
  have HC := Lib.hid (fun W => cut_any s W (by omega))
  have hbl : (Lib.trimSuffix s [10]).length ≤ s.length := by
    have := congrArg List.length (suffix_text h)
    simp at this
    omega
  have HSp := Lib.hid (fun W => split_any (Lib.trimSuffix s [10]) W (by omega))
  have hne := spl_ne (Lib.trimSuffix s [10])
  have hcl := Nat.le_trans (cells_le (Lib.trimSuffix s [10])) hbl
  have HL := Lib.hid (fun l (hl : l ∈ spl (Lib.trimSuffix s [10])) => Nat.le_trans (spl_le hl) hbl)
  have hlen1 : 1 ≤ (spl (Lib.trimSuffix s [10])).length := List.length_pos_iff.2 hne
  rw [h] at HC
  generalize spl (Lib.trimSuffix s [10]) = R at *
  generalize Lib.trimSuffix s [10] = body at *
  have HNO := Lib.hid (fun l (hl : l ∈ R) hb => imgL_no (l := l) hl hb)
  have HBAD := Lib.hid (fun hc => imgL_bad (R := R) hc)
  have HOK := Lib.hid (fun h0 hc => imgL_ok (R := R) h0 hc)
  have hhd : R.getD 0 [] = R.headD [] := by cases R <;> rfl
  have hWs : (R.headD []).length ≤ 1048576 := by
    have := HL.out (R.headD []) (by cases R with | nil => simp at hlen1 | cons a t => simp)
    omega
  obtain ⟨Wd, hWd⟩ : ∃ Wd, (R.headD []).length = Wd := ⟨_, rfl⟩
  rw [hWd] at HNO HBAD HOK hWs
  have hgt : ((R.length : Int) > 64) = False := by simp; omega
  have hgt2 : decide ((64 : Int) < (R.length : Int)) = false := by simp; omega
  refine (callsIn_wide (n := 3)).1 (callsIn_of_wp_marks Tryd.func6 rfl trivial ?_ rfl)
  simp only [Tryd.ntmps6, List.size_toArray, List.length_cons, List.length_nil, Nat.reduceAdd, Nat.reduceSub, Array.replicate_succ, Array.replicate_zero, List.push_toArray, List.append_toArray, List.nil_append, List.cons_append]
  refine wpIn_wide.2 ?_
  go_wp2_with fail
  refine (HC.out _).mono ?_
  rintro e w1 ⟨rfl, h1⟩
  have h2 := h1
  subst h2
  clear h1
  go_wp2_with fail
  refine (HSp.out _).mono ?_
  rintro e w3 ⟨rfl, rfl⟩
  have S3 := S0.box (R.map str).toArray 9
  simp only [size_alloc1, List.nil_append, List.cons_append] at S3
  have c0 : (((w.alloc (.cells #[.int .i64 0, .int .i64 0, .slice none 0 0] 24)).alloc (.cells #[.int .i64 0] 25)).alloc (.cells (R.map str).toArray 9)).cell? ⟨w.heap.size + 1 + 1, 0, none⟩ = some (str (R.getD 0 [])) := by
    rw [(S3.blk 2 rfl).cell 0]
    simp [List.getD_eq_getElem?_getD, show 0 < R.length by omega]
  rw [hhd] at c0
  have c1 := size_list (R.headD [])
  rw [hWd] at c1
  generalize R.headD [] = hd at *
  go_wp2_with fail
  refine (backward_any _ _ _ _).mono ?_
  rintro e w4 ⟨rfl, rfl⟩
  go_wp2_with fail
  have S5 := (S3.box #[.int .i64 Wd, .int .i64 R.length, .slice none 0 0] 24).box #[.slice (some ⟨w.heap.size + 1 + 1, 0, none⟩) R.length R.length] 50
  simp only [size_alloc1, List.nil_append, List.cons_append] at S5
  have hsz : (((((w.alloc (.cells #[.int .i64 0, .int .i64 0, .slice none 0 0] 24)).alloc (.cells #[.int .i64 0] 25)).alloc (.cells (R.map str).toArray 9)).alloc (.cells #[.int .i64 Wd, .int .i64 R.length, .slice none 0 0] 24)).alloc (.cells #[.slice (some ⟨w.heap.size + 1 + 1, 0, none⟩) R.length R.length] 50)).heap.size = w.heap.size + 5 := by simp only [size_alloc1]
  obtain ⟨W0, hW0⟩ := St.worldF S5
  rw [← hW0] at S5 hsz ⊢
  clear hW0 S0 S3 c0 HC HSp
  have hPM : PM w R Wd none 0 0 [] W0 := ⟨S5.blk 0 rfl, S5.blk 1 rfl, S5.blk 2 rfl, S5.blk 3 rfl, S5.blk 4 rfl, World.ownsRow_nil _ _ _ _, S5.below⟩
  clear S5
  refine (wpIn_wide (n := 3)).1 ?_
  refine' wpIn_rangeFunc_ownG (F := Fence.wide) (n := 3) rfl (by omega) (gf := 41) (lb := #[.pointer (some ⟨w.heap.size + 1 + 1 + 1 + 1, 0, none⟩)]) rfl trivial (enters_of Tryd.func41 (by kernel_rfl) rfl)
    (back_stops Fence.wide (3 - 1) trivial rfl (by omega) (w.heap.size + 1 + 1 + 1 + 1) (w.heap.size + 1 + 1) R (by omega) W0 hPM.box hPM.rows) kb_t (kb_b (by simp; omega)) (Below.refl _ _) (fun _ => rfl)
    (fun pre W => (∃ A cp, PM w R Wd A (flatC R pre).length cp (flatC R pre) W) ∧ ∀ x ∈ pre, (lineAt R x.1).length = Wd)
    (fun c pre W => c = .ret ∧ (∃ x : Fin R.length, (lineAt R x.1).length ≠ Wd) ∧ Blk W w.heap.size 24 #[.int .i64 0, .int .i64 0, .slice none 0 0] ∧ Blk W (w.heap.size + 1) 25 #[.int .i64 12] ∧ Below w.heap.size w W)
    ?hI ?hIx ?h0 _ ?assign ?body ?done ?stop
  case assign =>
    intro l x W K hK
    gi_wp2
    exact hK
  case hI =>
    rintro pre X Y row ⟨⟨A, cp, h⟩, hx⟩ hg hr
    exact ⟨⟨A, cp, h.kept hg (by omega) hr⟩, hx⟩
  case hIx =>
    rintro c pre X Y row ⟨rfl, hx, h1, h2, h3⟩ hg hr
    have hr' : ∀ r, row = some r → ∃ o : Obj, X.heap[r]? = some o ∧ o.isCells = false := fun r e => (hr r e).2
    exact ⟨rfl, hx, blk_kept h1 hg hr', blk_kept h2 hg hr', h3.grown hg h3.size fun k e => Nat.le_trans (by omega) (hr k e).1⟩
  case h0 => exact ⟨⟨none, 0, hPM⟩, by simp⟩
  case body =>
    rintro l pre x W ⟨⟨A, cp, hM⟩, hx⟩ hlt
    generalize hrow : lineAt R x.1 = row at *
    have hsl := size_list row
    obtain ⟨m0, m1, m2⟩ := hM.img.cell3
    by_cases hW : row.length = Wd
    · have hlw : ((row.length : Int) != (Wd : Int)) = false := by rw [hW]; simp
      have hT : (flatC R pre).length = pre.length * Wd := flatC_len pre hx
      have hfl : flatC R (pre ++ [x]) = flatC R pre ++ colsC row := by rw [← hrow]; simp [flatC]
      have HX := Lib.hid (show ∀ y ∈ pre ++ [x], (lineAt R y.1).length = Wd from fun y hy => by
        rcases List.mem_append.1 hy with hy | hy
        · exact hx y hy
        · rw [List.mem_singleton.1 hy, hrow]; exact hW)
      have HFL := Lib.hid hfl
      have hTb : (flatC R pre).length ≤ 64 * 1048576 := by rw [hT]; exact Nat.mul_le_mul (by omega) hWs
      clear hx hfl hT hPM
      obtain ⟨W5, cb, hcv, hb5, hby, hko⟩ := conv_any row W
      generalize flatC R pre = cs at *
      have hM5 := hM.keep hb5
      obtain ⟨m0', m1', m2'⟩ := hM5.img.cell3
      have HBW := Lib.hid (And.intro hM.box hM.rows)
      have hnb5 := hM.box.lt
      gi_wp2
      have HKO := Lib.hid hko
      have HBY := Lib.hid hby
      have HM5 := Lib.hid hM5
      have HB5 := Lib.hid hb5
      clear hko hby hM5 hb5 m0' m1' m2' m0 m1 m2 hcv
      obtain ⟨nb, hnb⟩ : ∃ nb, W.heap.size = nb := ⟨_, rfl⟩
      rw [hnb] at HBY hnb5 ⊢
      obtain ⟨T, hTT⟩ : ∃ T, cs.length = T := ⟨_, rfl⟩
      rw [hTT] at HM5 hTb
      have hrl : row.length ≤ 1048576 := by omega
      gi_loopw [47] (fun i wr => ∃ (k cp : Nat) (A : Option Addr), k ≤ row.length ∧ i = .int .i64 k ∧ PM w R Wd A (T + k) cp (cs ++ colsC (row.take k)) wr ∧ Byt wr nb row ∧ KeepsOthers W wr)
        (fun i _ => row.length - (intOf i).toNat)
      case atStart => exact ⟨0, cp, A, Nat.zero_le _, rfl, by simpa [colsC] using HM5.out, HBY.out, HKO.out⟩
      case round =>
        clear hM
        obtain ⟨k, cp, A, hk, rfl, hM, hby, hko⟩ := hrel
        by_cases hltk : k < row.length
        · have hct := colsC_take hltk
          have hbc := hby.cell hltk
          obtain ⟨u, hu⟩ : ∃ u, (row.getD k 0).toNat = u := ⟨_, rfl⟩
          have hu2 : u < 256 := by rw [← hu]; exact (row.getD k 0).toNat_lt
          rw [hu] at hct hbc
          have hw1 : IntKind.i64.wrap (u : Int) = (u : Int) := wrap_small _ (by omega) (by omega)
          have hw2 : IntKind.i64.wrap ((u : Int) - 97) = (u : Int) - 97 := by rw [IntKind.wrap_i64]; omega
          obtain ⟨m0, m1, m2⟩ := hM.img.cell3
          have hsz3 := hM.below.size
          have hApp := Lib.hid (fun o w3 g' cp' x h1 h2 => PM.app hM o (w3 := w3) (g' := g') (cp' := cp') (x := x) h1 h2)
          have hOa := Lib.hid (fun o => hM.own.alloc o)
          have hGa := Lib.hid (fun o w3 (h : (wr.alloc o).grownBy w3 (Value.slice A (T + k) cp).ownBlock) => Blk.grown (hM.img.alloc o) h (own_blk_ne hM.own hM.img (by decide)))
          have hKa := Lib.hid (fun o w3 (h : (wr.alloc o).grownBy w3 (Value.slice A (T + k) cp).ownBlock) v => keeps_app hM.own o h (w.heap.size + 1 + 1 + 1) 2 v)
          have hBa := Lib.hid (fun o w3 (h : (wr.alloc o).grownBy w3 (Value.slice A (T + k) cp).ownBlock) => h.block nb (by have := hby.lt; simp; omega) (hby.not_row hM.own))
          have hby' := Lib.hid hby
          have hko' := Lib.hid hko
          have hCT := Lib.hid hct
          have hlt2 : (k : Int) < (row.length : Int) := by omega
          clear hM hby hko hct
          generalize colsC (row.take k) = ct at *
          gi_wp2_with (gi_at_builtin; refine wpListIn_append_own _ rfl _ _ 22 rfl w.heap.size 3 i0 (.int .i64 0) 1 8 Tryd.underlying22 hi hz0 hz1 hz2 rfl (by decide) _ _ _ rfl (hOa.out _) ⟨wr.heap.size, 0, none⟩ 1 1 [.int .i64 ((u : Int) - 97)] rfl rfl (cell_one_new _ _ _) (by simp [Value.oneCell']) (by unfold maxLen; omega) (by omega) (by simp; omega) ?_; intro v' w3 hown3 hgr3 _; obtain ⟨g', cp', rfl⟩ := ownsRow_succ hown3; have hG3 := hGa.out _ _ hgr3; have hg1 := hG3.cell 2; have hg2 := hG3.frozen 2)
          refine ⟨⟨k + 1, cp', some ⟨g', 0, none⟩, by omega, by push_cast; rfl, ?_, ?_, hko'.out.trans (hKa.out _ _ hgr3 _)⟩, by simp [intOf]; omega⟩
          · rw [hCT.out, ← List.append_assoc, ← Nat.add_assoc]
            exact hApp.out _ _ _ _ _ hown3 hgr3
          · exact hby'.out.same ((Below.heap_setCell _ _ _ _ (by simp; omega)).trans ((hBa.out _ _ hgr3).trans (Below.heap_alloc _ _ _ hby'.out.lt)))
        · have hkl : k = row.length := by omega
          subst hkl
          rw [List.take_of_length_le (Nat.le_refl _)] at hM
          gi_wp2
          refine ⟨hko.from _, fun j hj => ?_, ⟨A, cp, ?_⟩, HX.out⟩
          · simp only [List.mem_cons, List.not_mem_nil, or_false] at hj
            rcases hj with rfl | rfl
            · exact (show _ = _ from hM.box).trans (show _ = _ from HBW.out.1).symm
            · exact (show _ = _ from hM.rows).trans (show _ = _ from HBW.out.2).symm
          · rw [HFL.out, List.length_append, colsC_len, hTT, hW]
            rw [hW] at hM
            exact hM
    · have hlw : ((row.length : Int) != (Wd : Int)) = true := by simp; omega
      obtain ⟨r0, r1, r2⟩ := hM.res.cell3
      obtain ⟨f0, f1, f2⟩ := hM.res.frozen3
      have e0 : W.cell? ⟨w.heap.size + 1, 0, none⟩ = some (.int .i64 0) := hM.err.cell 0
      have e1 : W.frozen? ⟨w.heap.size + 1, 0, none⟩ = false := hM.err.frozen 0
      gi_wp2
      refine ⟨?_, rfl, ⟨x, by rw [hrow]; exact hW⟩, (hM.res.set3 _ _ _).far (p := ⟨w.heap.size + 1, 0, none⟩) (by simp) _, ?_, ?_⟩
      · exact ((((KeepsOthers.setCell _ _ _).trans (KeepsOthers.setCell _ _ _)).trans (KeepsOthers.setCell _ _ _)).trans (KeepsOthers.setCell _ _ _)).from _
      · have := (((hM.err.far (p := ⟨w.heap.size, 0, none⟩) (by simp) (.int .i64 0)).far (p := ⟨w.heap.size, 1, none⟩) (by simp) (.int .i64 0)).far (p := ⟨w.heap.size, 2, none⟩) (by simp) (.slice none 0 0)).set_ 0 (.int .i64 12)
        simpa using this
      · exact (below_set3 hM.below (Nat.le_refl _) _ _ _).setCell (p := ⟨w.heap.size + 1, 0, none⟩) (by simp) _
  case done =>
    rintro D ys W hD rfl ⟨⟨A, cp, hM⟩, hx⟩ hK
    rw [flatC_all] at hM
    have HR := Lib.hid (lines_all hx)
    clear hx hPM
    have hDl := (Array.getElem?_eq_some_iff.1 hK).1
    obtain ⟨n, hn⟩ : ∃ n, (cellsC R).length = n := ⟨_, rfl⟩
    rw [hn] at hM
    have hRd : Rd W A n ((cellsC R).map (Value.int .i64)) := rd_of_own hM.own
    obtain ⟨m0, m1, m2⟩ := hM.img.cell3
    have HCk := Lib.hid (checkI_any ⟨Wd, R.length, cellsC R⟩ A n cp W hRd (by omega))
    simp only at HCk
    obtain ⟨ck, hck⟩ : ∃ ck, chkI ⟨Wd, R.length, cellsC R⟩ = ck := ⟨_, rfl⟩
    rw [hck] at HCk HBAD HOK
    by_cases hc : ck = 0
    · have hcb : (ck != 0) = false := by simpa using hc
      have HF := Lib.hid (HOK.out HR.out hc)
      subst hc
      go_wp2_with fail
      refine HCk.out.mono ?_
      rintro e w5 ⟨rfl, hb5⟩
      have hM5 := hM.keep hb5
      have hK5 := (hb5.block D hDl).trans hK
      clear hM hK m0 m1 m2 hRd
      obtain ⟨m0, m1, m2⟩ := hM5.img.cell3
      obtain ⟨r0, r1, r2⟩ := hM5.res.cell3
      obtain ⟨f0, f1, f2⟩ := hM5.res.frozen3
      have e0 := hM5.err.cell 0
      have e1 := hM5.err.frozen 0
      go_wp2_with fail
      clear r0 r1 r2 f0 f1 f2 e0 e1
      obtain ⟨W6, hW6, hK6, W7, hW7, hr, he, ho, hB⟩ := hM5.fin Wd R.length 0 A n cp D (by omega) hK5
      rw [hW6]
      refine ⟨by simp, .inl ⟨_, _, rfl, run_takeDeferred hK6, ?_⟩⟩
      rw [← hW7]
      obtain ⟨r0, r1, r2⟩ := hr.cell3
      have e0 := he.cell 0
      refine ⟨.tuple #[.agg #[.int .i64 Wd, .int .i64 R.length, .slice A n cp], .int .i64 0], by simp [results, Tryd.results6, go_sem, r0, r1, r2, e0], ?_⟩
      rw [HF.out]
      exact ⟨A, n, cp, rfl, ho, hB⟩
    · have hcb : (ck != 0) = true := by simpa using hc
      have HF := Lib.hid (HBAD.out hc)
      go_wp2_with fail
      refine HCk.out.mono ?_
      rintro e w5 ⟨rfl, hb5⟩
      have hM5 := hM.keep hb5
      have hK5 := (hb5.block D hDl).trans hK
      clear hM hK m0 m1 m2 hRd
      obtain ⟨r0, r1, r2⟩ := hM5.res.cell3
      obtain ⟨f0, f1, f2⟩ := hM5.res.frozen3
      have e0 := hM5.err.cell 0
      have e1 := hM5.err.frozen 0
      go_wp2_with fail
      clear r0 r1 r2 f0 f1 f2 e0 e1
      obtain ⟨W6, hW6, hK6, W7, hW7, hr, he, ho, hB⟩ := hM5.fin 0 0 12 none 0 0 D (by omega) hK5
      rw [hW6]
      refine ⟨by simp, .inl ⟨_, _, rfl, run_takeDeferred hK6, ?_⟩⟩
      rw [← hW7]
      obtain ⟨r0, r1, r2⟩ := hr.cell3
      have e0 := he.cell 0
      refine ⟨.tuple #[.agg #[.int .i64 0, .int .i64 0, .slice none 0 0], .int .i64 12], by simp [results, Tryd.results6, go_sem, r0, r1, r2, e0], ?_⟩
      exact bad_retI HF.out hB
  case stop =>
    rintro D c pre W hD hpre ⟨rfl, ⟨x, hx⟩, hr, he, hB⟩ hK
    have hN := HNO.out (lineAt R x.1) (lineAt_mem x.2) hx
    have hg := grownBy_putObj' W D (.deferred none)
    have hgc : ∀ r, some D = some r → ∃ o : Obj, W.heap[r]? = some o ∧ o.isCells = false := fun r e => by cases e; exact ⟨_, hK, rfl⟩
    have hr' := blk_kept hr hg hgc
    have he' := blk_kept he hg hgc
    obtain ⟨r0, r1, r2⟩ := hr'.cell3
    have e0 := he'.cell 0
    refine wpIn_wide.2 ?_
    go_wp2_with fail
    refine ⟨by simp, .inl ⟨_, _, rfl, run_takeDeferred hK, ?_⟩⟩
    refine ⟨.tuple #[.agg #[.int .i64 0, .int .i64 0, .slice none 0 0], .int .i64 12], by simp [results, Tryd.results6, go_sem, r0, r1, r2, e0], ?_⟩
    exact bad_retI hN (hB.trans (belowK_b (w := w) (Nat.le_refl _) W D _ _ (by omega) hK rfl rfl))

set_option maxHeartbeats 2000000 in
set_option maxRecDepth 100000 in
theorem iparse_no (s : List UInt8) (w : World) (hs : s.length ≤ 1048576) (h : Lib.hasSuffix s [10] = false ∨ 64 < (spl (Lib.trimSuffix s [10])).length) : Calls Tryd.prog 6 #[str s] w (RetI (Im.zero, 12) w) := by
  have S0 := ((St.start w).box #[.int .i64 0, .int .i64 0, .slice none 0 0] 24).box #[.int .i64 0] 25
  simp only [size_alloc1, List.nil_append, List.cons_append] at S0
  have HC := Lib.hid (fun W => cut_any s W (by omega))
  have hbl : (Lib.trimSuffix s [10]).length ≤ s.length := by
    unfold Lib.trimSuffix
    split
    · simp
    · exact Nat.le_refl _
  have HSp := Lib.hid (fun W => split_any (Lib.trimSuffix s [10]) W (by omega))
  have hlen1 : 1 ≤ (spl (Lib.trimSuffix s [10])).length := List.length_pos_iff.2 (spl_ne _)
  have hlen2 : (spl (Lib.trimSuffix s [10])).length ≤ s.length + 1 := by
    have h1 := cells_len (spl (Lib.trimSuffix s [10]))
    rw [nl_spl, List.length_append, List.length_singleton] at h1
    omega
  generalize spl (Lib.trimSuffix s [10]) = R at *
  generalize Lib.trimSuffix s [10] = body at *
  have fin : ∀ (W : World), Below w.heap.size w W → Blk W w.heap.size 24 #[.int .i64 0, .int .i64 0, .slice none 0 0] → Blk W (w.heap.size + 1) 25 #[.int .i64 0] →
      ∃ W', ((((W.setCell ⟨w.heap.size, 0, none⟩ (.int .i64 0)).setCell ⟨w.heap.size, 1, none⟩ (.int .i64 0)).setCell ⟨w.heap.size, 2, none⟩ (.slice none 0 0)).setCell ⟨w.heap.size + 1, 0, none⟩ (.int .i64 12)) = W' ∧ Blk W' w.heap.size 24 #[.int .i64 0, .int .i64 0, .slice none 0 0] ∧ W'.cell? ⟨w.heap.size + 1, 0, none⟩ = some (.int .i64 12) ∧ Below w.heap.size w W' := fun W hB hr he => by
    have h2 := (((he.far (p := ⟨w.heap.size, 0, none⟩) (by simp) (.int .i64 0)).far (p := ⟨w.heap.size, 1, none⟩) (by simp) (.int .i64 0)).far (p := ⟨w.heap.size, 2, none⟩) (by simp) (.slice none 0 0)).set_ 0 (.int .i64 12)
    exact ⟨_, rfl, (hr.set3 _ _ _).far (p := ⟨w.heap.size + 1, 0, none⟩) (by simp) _, by rw [h2.cell]; rfl, (below_set3 hB (Nat.le_refl _) _ _ _).setCell (p := ⟨w.heap.size + 1, 0, none⟩) (by simp) _⟩
  have FIN := Lib.hid fin
  clear fin
  have S3 := S0.box (R.map str).toArray 9
  simp only [size_alloc1, List.nil_append, List.cons_append] at S3
  obtain ⟨W3, hW3⟩ := St.worldF S3
  rw [← hW3] at S3
  obtain ⟨c0, c1, c2⟩ := (S3.blk 0 rfl).cell3
  obtain ⟨f0, f1, f2⟩ := (S3.blk 0 rfl).frozen3
  have e0 := (S3.blk 1 rfl).cell 0
  have e1 := (S3.blk 1 rfl).frozen 0
  have E0 := Lib.hid e0
  cases hb : Lib.hasSuffix s [10] with
  | false =>
    rw [hb] at HC
    clear hs h hb
    go_enter Tryd.func6, Tryd.ntmps6
    go_wp2_with fail
    refine (HC.out _).mono ?_
    rintro e w1 ⟨rfl, h1⟩
    have h2 := h1
    subst h2
    clear h1
    go_wp2_with fail
    refine (HSp.out _).mono ?_
    rintro e w3 ⟨rfl, rfl⟩
    rw [← hW3]
    clear hW3
    go_wp2_with fail
    obtain ⟨W', hW, hr, he, hB⟩ := FIN.out _ S3.below (S3.blk 0 rfl) (S3.blk 1 rfl)
    rw [hW]
    obtain ⟨q0, q1, q2⟩ := hr.cell3
    refine bodyPost_ret (v := .tuple #[.agg #[.int .i64 0, .int .i64 0, .slice none 0 0], .int .i64 12]) (by simp [results, Tryd.results6, go_sem, q0, q1, q2, he]) rfl ?_
    exact bad_retI rfl hB
  | true =>
    have h64 : 64 < R.length := by
      rcases h with h | h
      · rw [hb] at h; cases h
      · exact h
    rw [hb] at HC
    have hgt2 : decide ((64 : Int) < (R.length : Int)) = true := by simp; omega
    clear hs h hb
    go_enter Tryd.func6, Tryd.ntmps6
    go_wp2_with fail
    refine (HC.out _).mono ?_
    rintro e w1 ⟨rfl, h1⟩
    have h2 := h1
    subst h2
    clear h1
    go_wp2_with fail
    refine (HSp.out _).mono ?_
    rintro e w3 ⟨rfl, rfl⟩
    rw [← hW3]
    clear hW3
    go_wp2_with fail
    obtain ⟨W', hW, hr, he, hB⟩ := FIN.out _ S3.below (S3.blk 0 rfl) (S3.blk 1 rfl)
    rw [hW]
    obtain ⟨q0, q1, q2⟩ := hr.cell3
    refine bodyPost_ret (v := .tuple #[.agg #[.int .i64 0, .int .i64 0, .slice none 0 0], .int .i64 12]) (by simp [results, Tryd.results6, go_sem, q0, q1, q2, he]) rfl ?_
    exact bad_retI rfl hB
/-- colour.Parse, at any text of at most 1,048,576 bytes. -/
theorem iparse_any (s : List UInt8) (w : World) (hs : s.length ≤ 1048576) : Calls Tryd.prog 6 #[str s] w (RetI (parseI s) w) := by
  by_cases h : Lib.hasSuffix s [10] = true
  · by_cases h2 : (spl (Lib.trimSuffix s [10])).length ≤ 64
    · rw [parseI_lines h h2]
      exact iparse_lines s w hs h h2
    · rw [parseI_no (.inr (by omega))]
      exact iparse_no s w hs (.inr (by omega))
  · rw [parseI_no (.inl (by simpa using h))]
    exact iparse_no s w hs (.inl (by simpa using h))
end Go.Proofs.YtpfonniepinjnaaDoor
