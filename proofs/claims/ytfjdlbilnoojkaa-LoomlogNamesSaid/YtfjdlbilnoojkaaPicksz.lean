/- loomlog.picks cuts lifts into picks (a range over slices.Chunk). -/
import Derived.RangeFuncBox
import Derived.Shelf.RegionOpen
import Derived.Maps.AppendAt
import Derived.Test.YtfjdlbilnoojkaaChunkz
import Derived.Test.YtfjdlbilnoojkaaMg3z
import Derived.Test.YtfjdlbilnoojkaaLQz
import Derived.Test.YtfjdlbilnoojkaaInvRIz
namespace Go.Proofs.Ytfjdlbilnoojkaa
open Go.RowKit Go.Shelf

attribute [local go_sem] Oper.semAt_some

theorem St.worldF {w w1 : World} {L : List Fact} (_ : St w L w1) : ∃ x, x = w1 := ⟨w1, rfl⟩
theorem Try.infoRow : (Try.prog.info? 23).map (fun i => (i.zero, i.size, i.bytes)) = some (some (.slice none 0 0), 1, 24) := by kernel_rfl
/-- Row k of some bits. -/
def rowB (a : Nat) (bs : List Bool) (k : Nat) : List Bool := (bs.drop (k * a)).take a
theorem rowB_len {a h k : Nat} {bs : List Bool} (hl : bs.length = h * a) (hk : k < h) : (rowB a bs k).length = a := by
  unfold rowB
  rw [List.length_take, List.length_drop, hl]
  have := Nat.mul_le_mul_right a (show k + 1 ≤ h from hk)
  rw [Nat.succ_mul] at this
  omega
theorem rd_piece {w : World} {b o a h k : Nat} {bs : List Bool} (hr : Rd w (some ⟨b, o, none⟩) (h * a) (bs.map Value.bool)) (hk : k < h) : Rd w (some ⟨b, o + k * a, none⟩) a ((rowB a bs k).map Value.bool) := by
  have hl : bs.length = h * a := by simpa using hr.len
  refine ⟨by rw [List.length_map]; exact rowB_len hl hk, fun _ => ⟨b, o + k * a, rfl, fun j u hu => ?_⟩⟩
  rw [List.getElem?_map] at hu
  unfold rowB at hu
  have hja : j < a := by
    by_cases h1 : j < a
    · exact h1
    · rw [List.getElem?_take, if_neg h1] at hu; simp at hu
  rw [List.getElem?_take, if_pos hja, List.getElem?_drop] at hu
  rw [Nat.add_assoc]
  exact hr.lit (k * a + j) u (by rw [List.getElem?_map]; exact hu)
theorem firstF_map {α : Type} {n : Nat} (f : Nat → α) : ((firstF n n).map fun x => f x.1) = (List.range n).map f := by
  have : ∀ k, k ≤ n → ((firstF n k).map fun x => f x.1) = (List.range k).map f := by
    intro k
    induction k with
    | zero => intro _; simp [firstF]
    | succ k ih => intro h; rw [firstF_succ (by omega), List.map_append, ih (by omega), List.range_succ, List.map_append]; rfl
  exact this n (Nat.le_refl _)
/-- What picks has in memory. -/
structure PK2 (w : World) (a h b o c : Nat) (vo v : Value) (n : Nat) (ls : List (List Bool)) (W : World) : Prop where
  out : Blk W (w.heap.size + 1) 70 #[vo]
  bx : Blk W (w.heap.size + 1 + 1) 23 #[.slice (some ⟨b, o, none⟩) (h * a) c]
  bn : Blk W (w.heap.size + 1 + 1 + 1) 3 #[.int .i64 a]
  rows : LQ W (w.heap.size + 4) 23 4 v n ls
  below : Below w.heap.size w W

abbrev PK (w : World) (a h b o c : Nat) (v : Value) (n : Nat) (ls : List (List Bool)) (W : World) : Prop := PK2 w a h b o c v v n ls W
theorem PK2.kept {w W W' : World} {a h b o c n B : Nat} {vo v : Value} {ls : List (List Bool)} {row : Option Nat} (k : PK2 w a h b o c vo v n ls W) (hg : W.grownBy W' row) (hB : w.heap.size + 4 ≤ B)
    (hr : ∀ r, row = some r → B ≤ r ∧ ∃ o : Obj, W.heap[r]? = some o ∧ o.isCells = false) : PK2 w a h b o c vo v n ls W' :=
  have hr' : ∀ r, row = some r → ∃ o : Obj, W.heap[r]? = some o ∧ o.isCells = false := fun r e => (hr r e).2
  ⟨blk_kept k.out hg hr', blk_kept k.bx hg hr', blk_kept k.bn hg hr', k.rows.kept hg (fun r e => ⟨Nat.le_trans hB (hr r e).1, (hr r e).2⟩), k.below.grown hg k.below.size fun j e => Nat.le_trans (Nat.le_trans (Nat.le_add_right _ _) hB) (hr j e).1⟩
theorem below_alloc1 (W : World) (ob : Obj) : Below W.heap.size W (W.alloc ob) := (Below.refl _ _).alloc (Nat.le_refl _) ob
theorem PK2.keep {w W W' : World} {a h b o c n : Nat} {vo v : Value} {ls : List (List Bool)} (k : PK2 w a h b o c vo v n ls W) (hb : Below W.heap.size W W') : PK2 w a h b o c vo v n ls W' :=
  ⟨k.out.keep hb, k.bx.keep hb, k.bn.keep hb, k.rows.below hb, below_then k.below hb⟩
theorem PK2.app {w W w3 : World} {a h b o c n : Nat} {vo v v' : Value} {ls ls' : List (List Bool)} {xs : List Value} (k : PK2 w a h b o c vo v n ls W)
    (hx : W.ownsRow (w.heap.size + 4) 23 1 v n xs) (hgr : W.grownBy w3 v.ownBlock) (hL : LQ w3 (w.heap.size + 4) 23 4 v' (n + 1) ls') : PK2 w a h b o c vo v' (n + 1) ls' w3 := by
  have hno : ∀ g, v.ownBlock = some g → w.heap.size + 4 ≤ g := fun g e => (hx.lt g e).1
  exact ⟨Blk.grown k.out hgr (fun e => by have := hno _ e.symm; omega), Blk.grown k.bx hgr (fun e => by have := hno _ e.symm; omega), Blk.grown k.bn hgr (fun e => by have := hno _ e.symm; omega), hL, Below.grown k.below hgr k.below.size (fun g e => by have := hno g e; omega)⟩
theorem PK2.put {w W : World} {a h b o c n : Nat} {vo v : Value} {ls : List (List Bool)} (k : PK2 w a h b o c vo v n ls W) (hvo : ∀ x : Bool, vo ≠ .bool x) : PK w a h b o c v n ls (W.setCell ⟨w.heap.size + 1, 0, none⟩ v) := by
  have hv : ∀ (j : Nat) (x : Bool), (#[vo] : Array Value)[j]? ≠ some (.bool x) := fun j x hj => by
    match j, hj with
    | 0, hj => simp at hj; exact hvo x hj
    | j + 1, hj => simp at hj
  exact ⟨by simpa using k.out.set_ 0 v, k.bx.far (by show w.heap.size + 1 + 1 ≠ w.heap.size + 1; omega) _, k.bn.far (by show w.heap.size + 1 + 1 + 1 ≠ w.heap.size + 1; omega) _, k.rows.farLow (p := ⟨w.heap.size + 1, 0, none⟩) k.out (by simp) hv _, k.below.setCell (by simp) _⟩
theorem keepsO {W W' : World} (hb : Below W.heap.size W W') : KeepsOthers W W' := KeepsOthers.of_grownBy (below_grown hb none) (fun j o e => by cases e)
theorem RowAt.of_own {w : World} {base B tE n c : Nat} {A : Option Addr} {l : List Bool} (h : w.ownsRow B tE 1 (.slice A n c) n (l.map Value.bool)) : RowAt w base tE A l := by
  have hl : l.length = n := by have := h.1; simpa using this
  refine ⟨by rw [hl]; exact rd_of_own h, fun b o hA _ => .inr ?_⟩
  rcases h.2 with ⟨h0, _⟩ | ⟨g, cap, cur, hv, _, hB, _⟩
  · injection h0 with h1
    rw [h1] at hA; cases hA
  · injection hv with h1
    rw [h1] at hA
    injection hA with hA
    injection hA with h2
    exact ⟨_, _, h2 ▸ hB⟩

set_option linter.unusedVariables false in
def PG (w : World) (a h b o c : Nat) (Av : Option Addr) (m cv : Nat) (ls : List (List Bool)) (row : List Bool) (x : Nat) (W : World) : List Bool → List Value → World → Prop
  | [l0, l1, l2, l3, l4, l5], [x0, x1, x2, x3, x4, x5], u => (KeepsOthers W u ∧ (l4 = false → PK w a h b o c (.slice Av m cv) m ls u)) ∧ (l0 = true → x0 = .slice Av m cv) ∧ (l1 = true → x1 = piece b o a x) ∧ (l2 = true → l3 = false → ∃ (A' : Option Addr) (c' : Nat), x2 = .slice A' a c' ∧ RowAt u (w.heap.size + 4) 4 A' row) ∧ (l3 = true → l4 = false → ∃ (A' : Option Addr) (c' g : Nat), x3 = .slice (some ⟨g, 0, none⟩) 1 1 ∧ u.cell? ⟨g, 0, none⟩ = some (.slice A' a c') ∧ g < u.heap.size ∧ RowAt u (w.heap.size + 4) 4 A' row) ∧ (l4 = true → l0 = true ∧ l2 = true ∧ l3 = true ∧ (l5 = false → ∃ g' c' : Nat, x4 = .slice (some ⟨g', 0, none⟩) (m + 1) c' ∧ PK2 w a h b o c (.slice Av m cv) (.slice (some ⟨g', 0, none⟩) (m + 1) c') (m + 1) (ls ++ [row]) u)) ∧ (l5 = true → l4 = true ∧ ∃ v' : Value, PK w a h b o c v' (m + 1) (ls ++ [row]) u)
  | _, _, _ => False
theorem PG_get (w : World) (a h b o c : Nat) (Av : Option Addr) (m cv : Nat) (ls : List (List Bool)) (row : List Bool) (x : Nat) (W : World) {l0 l1 l2 l3 l4 l5 : Bool} {x0 x1 x2 x3 x4 x5 : Value} {u : World} (hyp : PG w a h b o c Av m cv ls row x W [l0, l1, l2, l3, l4, l5] [x0, x1, x2, x3, x4, x5] u) : (KeepsOthers W u ∧ (l4 = false → PK w a h b o c (.slice Av m cv) m ls u)) ∧ (l0 = true → x0 = .slice Av m cv) ∧ (l1 = true → x1 = piece b o a x) ∧ (l2 = true → l3 = false → ∃ (A' : Option Addr) (c' : Nat), x2 = .slice A' a c' ∧ RowAt u (w.heap.size + 4) 4 A' row) ∧ (l3 = true → l4 = false → ∃ (A' : Option Addr) (c' g : Nat), x3 = .slice (some ⟨g, 0, none⟩) 1 1 ∧ u.cell? ⟨g, 0, none⟩ = some (.slice A' a c') ∧ g < u.heap.size ∧ RowAt u (w.heap.size + 4) 4 A' row) ∧ (l4 = true → l0 = true ∧ l2 = true ∧ l3 = true ∧ (l5 = false → ∃ g' c' : Nat, x4 = .slice (some ⟨g', 0, none⟩) (m + 1) c' ∧ PK2 w a h b o c (.slice Av m cv) (.slice (some ⟨g', 0, none⟩) (m + 1) c') (m + 1) (ls ++ [row]) u)) ∧ (l5 = true → l4 = true ∧ ∃ v' : Value, PK w a h b o c v' (m + 1) (ls ++ [row]) u) := hyp
theorem PG_mk (w : World) (a h b o c : Nat) (Av : Option Addr) (m cv : Nat) (ls : List (List Bool)) (row : List Bool) (x : Nat) (W : World) {l0 l1 l2 l3 l4 l5 : Bool} {x0 x1 x2 x3 x4 x5 : Value} {u : World} (hyp : (KeepsOthers W u ∧ (l4 = false → PK w a h b o c (.slice Av m cv) m ls u)) ∧ (l0 = true → x0 = .slice Av m cv) ∧ (l1 = true → x1 = piece b o a x) ∧ (l2 = true → l3 = false → ∃ (A' : Option Addr) (c' : Nat), x2 = .slice A' a c' ∧ RowAt u (w.heap.size + 4) 4 A' row) ∧ (l3 = true → l4 = false → ∃ (A' : Option Addr) (c' g : Nat), x3 = .slice (some ⟨g, 0, none⟩) 1 1 ∧ u.cell? ⟨g, 0, none⟩ = some (.slice A' a c') ∧ g < u.heap.size ∧ RowAt u (w.heap.size + 4) 4 A' row) ∧ (l4 = true → l0 = true ∧ l2 = true ∧ l3 = true ∧ (l5 = false → ∃ g' c' : Nat, x4 = .slice (some ⟨g', 0, none⟩) (m + 1) c' ∧ PK2 w a h b o c (.slice Av m cv) (.slice (some ⟨g', 0, none⟩) (m + 1) c') (m + 1) (ls ++ [row]) u)) ∧ (l5 = true → l4 = true ∧ ∃ v' : Value, PK w a h b o c v' (m + 1) (ls ++ [row]) u)) : PG w a h b o c Av m cv ls row x W [l0, l1, l2, l3, l4, l5] [x0, x1, x2, x3, x4, x5] u := hyp
theorem PG_b : ∀ l : List Bool, l.length = 6 → ∃ a0 a1 a2 a3 a4 a5, l = [a0, a1, a2, a3, a4, a5]
  | [a0, a1, a2, a3, a4, a5], _ => ⟨a0, a1, a2, a3, a4, a5, rfl⟩
theorem PG_v : ∀ l : List Value, l.length = 6 → ∃ a0 a1 a2 a3 a4 a5, l = [a0, a1, a2, a3, a4, a5]
  | [a0, a1, a2, a3, a4, a5], _ => ⟨a0, a1, a2, a3, a4, a5, rfl⟩
theorem keepsG {W w3 : World} {base n : Nat} {e : TypeId} {v : Value} {xs : List Value} (h : W.ownsRow base e 1 v n xs) (hgr : W.grownBy w3 v.ownBlock) : KeepsOthers W w3 := by
  refine KeepsOthers.of_grownBy hgr fun j o' e ho => ?_
  rcases h.2 with ⟨h0, _⟩ | ⟨g, cap, cur, hv, _, hh, _⟩
  · rw [h0] at e; simp [Value.ownBlock] at e
  · rw [hv] at e
    obtain rfl : g = j := by simpa [Value.ownBlock] using e
    rw [hh] at ho
    injection ho with e1
    subst e1
    rfl
set_option linter.unusedSimpArgs false in
set_option maxHeartbeats 4000000 in
set_option maxRecDepth 100000 in
theorem picks_cap (a h : Nat) (bs : List Bool) (A : Option Addr) (n c : Nat) (w : World) (ha1 : 1 ≤ a) (ha : a ≤ 64) (hh1 : 1 ≤ h) (hh : h ≤ 64) (hl : bs.length = h * a) (hr : Rd w A n (bs.map Value.bool)) (hnc : n ≤ c) :
    Calls Try.prog 40 #[.agg #[.int .i64 a, .int .i64 h, .slice A n c]] w fun e w' => ∃ A' c', e = .returned (.slice A' h c') ∧ LRB w' A' ((List.range h).map (rowB a bs)) ∧ Below w.heap.size w w' ∧ h ≤ c' := by
  obtain ⟨i0, hinf, hz0, hz1, hz2⟩ := info_parts Try.infoRow
  have hn : n = h * a := by have := hr.len; simpa [hl] using this.symm
  subst hn
  have hpos : 0 < h * a := Nat.mul_pos hh1 ha1
  obtain ⟨b, o, rfl, hb, _⟩ := hr.at_ hpos
  have S0 := ((St.start w).addRd hr).box #[.int .i64 a, .int .i64 h, .slice (some ⟨b, o, none⟩) (h * a) c] 25
  simp only [List.nil_append, List.cons_append] at S0
  obtain ⟨g0, g1, g2⟩ := (S0.blk 1 rfl).cell3
  refine (callsIn_wide (n := 3)).1 (callsIn_of_wp_marks Try.func40 rfl trivial ?_ rfl)
  simp only [Try.ntmps40, List.size_toArray, List.length_cons, List.length_nil, Nat.reduceAdd, Nat.reduceSub, Array.replicate_succ, Array.replicate_zero, List.push_toArray, List.append_toArray, List.nil_append, List.cons_append]
  refine wpIn_wide.2 ?_
  go_wp2_with fail
  refine (chunk_any _ _ _ a ha1 _).mono ?_
  rintro e w4 ⟨rfl, rfl⟩
  go_wp2_with fail
  have S5 := ((S0.box #[.slice none 0 0] 70).box #[.slice (some ⟨b, o, none⟩) (h * a) c] 23).box #[.int .i64 a] 3
  simp only [size_alloc1, List.nil_append, List.cons_append] at S5
  have hsz := S5.size
  obtain ⟨W0, hW0⟩ := St.worldF S5
  have hW1 : W0.heap.size = w.heap.size + 4 := by rw [hW0]; simp only [size_alloc1]
  rw [← hW0] at S5 hsz ⊢
  clear hW0 S0 g0 g1 g2
  have hPK : PK w a h b o c (.slice none 0 0) 0 [] W0 := ⟨S5.blk 2 rfl, S5.blk 3 rfl, S5.blk 4 rfl, LQ.nil _ _ _ _, S5.below⟩
  refine (wpIn_wide (n := 3)).1 ?_
  refine' wpIn_rangeFunc_ownG (F := Fence.wide) (n := 3) rfl (by omega) (gf := 63) (lb := #[.pointer (some ⟨w.heap.size + 1 + 1, 0, none⟩), .pointer (some ⟨w.heap.size + 1 + 1 + 1, 0, none⟩)]) rfl trivial (enters_of Try.func63 (by kernel_rfl) rfl)
    (chunk_stops Fence.wide (3 - 1) trivial rfl (by omega) (w.heap.size + 1 + 1) (w.heap.size + 1 + 1 + 1) b o c a h ha1 ha hh hnc W0 hPK.bx hPK.bn) kb_t (kb_b (by simp; omega)) (Below.refl _ _) (fun _ => rfl)
    (fun pre W => ∃ v, PK w a h b o c v pre.length (pre.map fun x => rowB a bs x.1) W)
    (fun _ _ _ => False)
    ?hI ?hIx ?h0 _ ?assign ?body ?done ?stop
  case assign =>
    intro l x W K hK
    gi_wp2
    exact hK
  case hI =>
    rintro pre X Y row ⟨v, k⟩ hg hr
    exact ⟨v, k.kept hg (by omega) hr⟩
  case hIx => exact fun _ _ _ _ _ hs _ _ => hs
  case h0 => exact ⟨_, hPK⟩
  case body =>
    rintro lp pre x W ⟨v, hM⟩ hlt
    obtain ⟨Av, cv, rfl, hcv⟩ := hM.rows.shape
    have m0 := hM.out.cell 0
    have hrp := rd_piece (hr.below hM.below) x.2
    have hra := rowB_len hl x.2
    gi_wp2
    have hMd : PK w a h b o c (.slice Av pre.length cv) pre.length (pre.map fun x => rowB a bs x.1) W.drew := hM.kept (W' := W.drew) (row := none) ⟨rfl, rfl, rfl, Nat.le_refl _, fun _ _ _ => rfl⟩ (Nat.le_refl _) (fun r e => by cases e)
    have HCL := Lib.hid (fun u (k : PK w a h b o c (.slice Av pre.length cv) pre.length (pre.map fun x => rowB a bs x.1) u) => (show Calls Try.prog 52 #[piece b o a x.1] u _ from cloneB_any ⟨b, o + x.1 * a, none⟩ a a (rowB a bs x.1) u (rd_piece (hr.below k.below) x.2) (by omega)))
    refine wpIn_region_invL 6 [some 11, some 12, some 13, some 14, some 15, none] (PG w a h b o c Av pre.length cv (pre.map fun x => rowB a bs x.1) (rowB a bs x.1) x.1 W) (by kernel_rfl) rfl rfl (by decide) (by kernel_rfl) (by kernel_rfl) (fun xs hx => ?_) (fun i hi => ?_) (fun xs wf hx hG => ?_)
    · obtain ⟨x0, x1, x2, x3, x4, x5, rfl⟩ := PG_v xs hx
      show PG w a h b o c Av pre.length cv (pre.map fun x => rowB a bs x.1) (rowB a bs x.1) x.1 W [false, false, false, false, false, false] [x0, x1, x2, x3, x4, x5] _
      refine PG_mk w a h b o c Av pre.length cv (pre.map fun x => rowB a bs x.1) (rowB a bs x.1) x.1 W ?_
      exact ⟨⟨KeepsOthers.drew _, fun _ => hMd⟩, (fun g1 => by cases g1), (fun g1 => by cases g1), (fun g1 => by cases g1), (fun g1 => by cases g1), (fun g1 => by cases g1), (fun g1 => by cases g1)⟩
    · match i, hi with
      | 0, _ =>
        intro o ho l xs w1 hl hx hG hi hdep K hK
        obtain rfl := Option.some.inj (ho.symm.trans rfl)
        clear ho
        obtain ⟨l0, l1, l2, l3, l4, l5, rfl⟩ := PG_b l hl
        obtain ⟨x0, x1, x2, x3, x4, x5, rfl⟩ := PG_v xs hx
        obtain rfl : l0 = false := hi
        clear hdep hl hx
        dsimp only [setAll, List.set_cons_zero, List.set_cons_succ] at hK ⊢
        have hf := PG_get w a h b o c Av pre.length cv (pre.map fun x => rowB a bs x.1) (rowB a bs x.1) x.1 W hG
        obtain rfl : l4 = false := by
          cases l4 with
          | false => rfl
          | true => exact absurd ((hf.2.2.2.2.2.1 rfl).1) (by decide)
        have q0 := (hf.1.2 rfl).out.cell 0
        clear hf
        go_simp
        refine hK.out _ _ ?_
        clear hK K
        obtain ⟨SD, h0, h1, h2, h3, h4, h5⟩ := PG_get w a h b o c Av pre.length cv (pre.map fun x => rowB a bs x.1) (rowB a bs x.1) x.1 W hG
        refine PG_mk w a h b o c Av pre.length cv (pre.map fun x => rowB a bs x.1) (rowB a bs x.1) x.1 W ?_
        exact ⟨SD, (fun g1 => rfl), h1, h2, h3, (fun g1 => by obtain ⟨e0, e2, e3, e5⟩ := h4 g1; exact absurd g1 (by decide)), h5⟩
      | 1, _ =>
        intro o ho l xs w1 hl hx hG hi hdep K hK
        obtain rfl := Option.some.inj (ho.symm.trans rfl)
        clear ho
        obtain ⟨l0, l1, l2, l3, l4, l5, rfl⟩ := PG_b l hl
        obtain ⟨x0, x1, x2, x3, x4, x5, rfl⟩ := PG_v xs hx
        obtain rfl : l1 = false := hi
        clear hdep hl hx
        dsimp only [setAll, List.set_cons_zero, List.set_cons_succ] at hK ⊢
        go_simp
        refine hK.out _ _ ?_
        clear hK K
        obtain ⟨SD, h0, h1, h2, h3, h4, h5⟩ := PG_get w a h b o c Av pre.length cv (pre.map fun x => rowB a bs x.1) (rowB a bs x.1) x.1 W hG
        refine PG_mk w a h b o c Av pre.length cv (pre.map fun x => rowB a bs x.1) (rowB a bs x.1) x.1 W ?_
        exact ⟨SD, h0, (fun g1 => rfl), h2, h3, h4, h5⟩
      | 2, _ =>
        intro o ho l xs w1 hl hx hG hi hdep K hK
        obtain rfl := Option.some.inj (ho.symm.trans rfl)
        clear ho
        obtain ⟨l0, l1, l2, l3, l4, l5, rfl⟩ := PG_b l hl
        obtain ⟨x0, x1, x2, x3, x4, x5, rfl⟩ := PG_v xs hx
        obtain rfl : l2 = false := hi
        obtain rfl : l1 = true := hdep 1 (by kernel_rfl)
        clear hdep hl hx
        dsimp only [setAll, List.set_cons_zero, List.set_cons_succ] at hK ⊢
        have hf := PG_get w a h b o c Av pre.length cv (pre.map fun x => rowB a bs x.1) (rowB a bs x.1) x.1 W hG
        obtain rfl := (hf.2.2.1 rfl)
        obtain rfl : l4 = false := by
          cases l4 with
          | false => rfl
          | true => exact absurd ((hf.2.2.2.2.2.1 rfl).2.1) (by decide)
        have HQ := HCL.out w1 (hf.1.2 rfl)
        clear hf
        go_simp
        refine ⟨trivial, ?_⟩
        refine (CallsIn.inRound lp (callsIn_wide.2 HQ)).mono ?_
        rintro e wz ⟨A', c', rfl, hown, hbz⟩
        try go_simp
        refine hK.out _ _ ?_
        clear hK K
        obtain ⟨SD, h0, h1, h2, h3, h4, h5⟩ := PG_get w a h b o c Av pre.length cv (pre.map fun x => rowB a bs x.1) (rowB a bs x.1) x.1 W hG
        have hb := hbz
        refine PG_mk w a h b o c Av pre.length cv (pre.map fun x => rowB a bs x.1) (rowB a bs x.1) x.1 W ?_
        exact ⟨⟨SD.1.trans (keepsO hb), fun g => (SD.2 g).keep hb⟩, h0, h1, (fun g1 g2 => ⟨_, _, rfl, RowAt.of_own hown⟩), (fun g1 g2 => by obtain ⟨A', c', g, e, hc, hg, r⟩ := h3 g1 g2; exact ⟨A', c', g, e, (hb.cell (p := ⟨g, 0, none⟩) hg).trans hc, Nat.lt_of_lt_of_le hg hb.size, r.below hb⟩), (fun g1 => by obtain ⟨e0, e2, e3, e5⟩ := h4 g1; exact absurd g1 (by decide)), (fun g1 => by obtain ⟨e4, v', k⟩ := h5 g1; exact ⟨e4, v', k.keep hb⟩)⟩
      | 3, _ =>
        intro o ho l xs w1 hl hx hG hi hdep K hK
        obtain rfl := Option.some.inj (ho.symm.trans rfl)
        clear ho
        obtain ⟨l0, l1, l2, l3, l4, l5, rfl⟩ := PG_b l hl
        obtain ⟨x0, x1, x2, x3, x4, x5, rfl⟩ := PG_v xs hx
        obtain rfl : l3 = false := hi
        obtain rfl : l2 = true := hdep 2 (by kernel_rfl)
        clear hdep hl hx
        dsimp only [setAll, List.set_cons_zero, List.set_cons_succ] at hK ⊢
        have hf := PG_get w a h b o c Av pre.length cv (pre.map fun x => rowB a bs x.1) (rowB a bs x.1) x.1 W hG
        obtain rfl : l4 = false := by
          cases l4 with
          | false => rfl
          | true => exact absurd ((hf.2.2.2.2.2.1 rfl).2.2.1) (by decide)
        obtain ⟨A', c', rfl, r2⟩ := (hf.2.2.2.1 rfl rfl)
        clear hf
        go_simp
        refine hK.out _ _ ?_
        clear hK K
        obtain ⟨SD, h0, h1, h2, h3, h4, h5⟩ := PG_get w a h b o c Av pre.length cv (pre.map fun x => rowB a bs x.1) (rowB a bs x.1) x.1 W hG
        have hb := fun ob => (Below.refl w1.heap.size w1).alloc (Nat.le_refl _) ob
        refine PG_mk w a h b o c Av pre.length cv (pre.map fun x => rowB a bs x.1) (rowB a bs x.1) x.1 W ?_
        exact ⟨⟨SD.1.trans (keepsO (hb _)), fun g => (SD.2 g).keep (hb _)⟩, h0, h1, (fun _ g2 => by cases g2), (fun g1 g2 => ⟨_, _, _, rfl, (Blk.new _ _ _).cell 0, by simp, r2.below (hb _)⟩), (fun g1 => by obtain ⟨e0, e2, e3, e5⟩ := h4 g1; exact absurd g1 (by decide)), (fun g1 => by obtain ⟨e4, v', k⟩ := h5 g1; exact ⟨e4, v', k.keep (hb _)⟩)⟩
      | 4, _ =>
        intro o ho l xs w1 hl hx hG hi hdep K hK
        obtain rfl := Option.some.inj (ho.symm.trans rfl)
        clear ho
        obtain ⟨l0, l1, l2, l3, l4, l5, rfl⟩ := PG_b l hl
        obtain ⟨x0, x1, x2, x3, x4, x5, rfl⟩ := PG_v xs hx
        obtain rfl : l4 = false := hi
        obtain rfl : l0 = true := hdep 0 (by kernel_rfl)
        obtain rfl : l2 = true := hdep 2 (by kernel_rfl)
        obtain rfl : l3 = true := hdep 3 (by kernel_rfl)
        clear hdep hl hx
        dsimp only [setAll, List.set_cons_zero, List.set_cons_succ] at hK ⊢
        have hf := PG_get w a h b o c Av pre.length cv (pre.map fun x => rowB a bs x.1) (rowB a bs x.1) x.1 W hG
        obtain rfl := (hf.2.1 rfl)
        obtain ⟨A', c', g, rfl, hc, hg, r3⟩ := (hf.2.2.2.2.1 rfl rfl)
        have hP := hf.1.2 rfl
        obtain ⟨xs', hx', happ⟩ := hP.rows.open (by decide)
        have hsz4 := hP.bn.lt
        clear hf
        refine stepIn_app w1 (.tmp 11) (.tmp 14) 70 rfl (w.heap.size + 4) 23 i0 (.slice none 0 0) 24 Try.underlying70 hinf hz0 hz1 hz2 rfl (.slice Av pre.length cv) pre.length xs' rfl hx' ⟨g, 0, none⟩ (.slice A' a c') rfl (fun j y hj => ?_) (by simp [Value.oneCell']) (by unfold maxLen; omega) (by omega) (by omega) (fun v' w3 q1 q2 => ?_)
        · match j, hj with
          | 0, hj => simp at hj; subst hj; simpa [Addr.add] using hc
        obtain ⟨g', cp', rfl⟩ := ownsRow_succ q1
        dsimp only [Act.put]
        simp only [List.setIfInBounds_toArray, List.set_cons_zero, List.set_cons_succ]
        refine hK.out _ _ ?_
        clear hK K
        obtain ⟨SD, h0, h1, h2, h3, h4, h5⟩ := PG_get w a h b o c Av pre.length cv (pre.map fun x => rowB a bs x.1) (rowB a bs x.1) x.1 W hG
        refine PG_mk w a h b o c Av pre.length cv (pre.map fun x => rowB a bs x.1) (rowB a bs x.1) x.1 W ?_
        exact ⟨⟨SD.1.trans (keepsG hx' q2), fun g => by cases g⟩, h0, h1, (fun _ g2 => by cases g2), (fun _ g2 => by cases g2), (fun g1 => ⟨rfl, rfl, rfl, fun _ => ⟨g', cp', rfl, hP.app hx' q2 (happ w3 _ A' c' _ r3 (by rw [hra]; exact q1) q2)⟩⟩), (fun g1 => by obtain ⟨e4, v', k⟩ := h5 g1; cases e4)⟩
      | 5, _ =>
        intro o ho l xs w1 hl hx hG hi hdep K hK
        obtain rfl := Option.some.inj (ho.symm.trans rfl)
        clear ho
        obtain ⟨l0, l1, l2, l3, l4, l5, rfl⟩ := PG_b l hl
        obtain ⟨x0, x1, x2, x3, x4, x5, rfl⟩ := PG_v xs hx
        obtain rfl : l5 = false := hi
        obtain rfl : l4 = true := hdep 4 (by kernel_rfl)
        obtain rfl : l0 = true := hdep 0 (by kernel_rfl)
        obtain rfl : l1 = true := hdep 1 (by kernel_rfl)
        obtain rfl : l2 = true := hdep 2 (by kernel_rfl)
        obtain rfl : l3 = true := hdep 3 (by kernel_rfl)
        clear hdep hl hx
        dsimp only [setAll, List.set_cons_zero, List.set_cons_succ] at hK ⊢
        have hf := PG_get w a h b o c Av pre.length cv (pre.map fun x => rowB a bs x.1) (rowB a bs x.1) x.1 W hG
        obtain ⟨_, _, _, k5⟩ := (hf.2.2.2.2.2.1 rfl)
        obtain ⟨g', c', rfl, hP⟩ := k5 rfl
        have q0 := hP.out.cell 0
        have q1 := hP.out.frozen 0
        clear hf
        go_simp
        refine hK.out undef _ ?_
        clear hK K
        obtain ⟨SD, h0, h1, h2, h3, h4, h5⟩ := PG_get w a h b o c Av pre.length cv (pre.map fun x => rowB a bs x.1) (rowB a bs x.1) x.1 W hG
        refine PG_mk w a h b o c Av pre.length cv (pre.map fun x => rowB a bs x.1) (rowB a bs x.1) x.1 W ?_
        exact ⟨⟨SD.1.trans (KeepsOthers.setCell _ _ _), fun g => by cases g⟩, h0, h1, (fun _ g2 => by cases g2), (fun _ g2 => by cases g2), (fun g1 => by obtain ⟨e0, e2, e3, e5⟩ := h4 g1; exact ⟨e0, e2, e3, fun g => by cases g⟩), (fun g1 => ⟨rfl, _, hP.put (by simp)⟩)⟩
      | k + 6, h => exact absurd h (by omega)
    · obtain ⟨x0, x1, x2, x3, x4, x5, rfl⟩ := PG_v xs hx
      have hG : PG w a h b o c Av pre.length cv (pre.map fun x => rowB a bs x.1) (rowB a bs x.1) x.1 W [true, true, true, true, true, true] [x0, x1, x2, x3, x4, x5] wf := hG
      have hf := PG_get w a h b o c Av pre.length cv (pre.map fun x => rowB a bs x.1) (rowB a bs x.1) x.1 W hG
      obtain ⟨_, v', hP⟩ := (hf.2.2.2.2.2.2 rfl)
      have hko := hf.1.1
      clear hf hG
      dsimp only [setAll, List.set_cons_zero, List.set_cons_succ]
      gi_wp2
      refine ⟨hko.from _, fun j hj => ?_, ⟨v', by rw [List.length_append, List.map_append]; exact hP⟩⟩
      simp only [List.mem_cons, List.not_mem_nil, or_false] at hj
      rcases hj with rfl | rfl
      · exact (show _ = _ from hP.bx).trans (show _ = _ from hM.bx).symm
      · exact (show _ = _ from hP.bn).trans (show _ = _ from hM.bn).symm
  case done =>
    rintro D ys W hD rfl ⟨v, hM⟩ hK
    have m0 := hM.out.cell 0
    have hf : (firstF h h).length = h := firstF_length (Nat.le_refl _)
    go_wp2_with fail
    refine ⟨by simp, .inl ⟨_, _, rfl, run_takeDeferred hK, ?_⟩⟩
    have hM2 := hM.kept (grownBy_putObj' W D (.deferred none)) (B := W0.heap.size) (by omega) (fun r e => by cases e; exact ⟨hD, _, hK, rfl⟩)
    have hq := hM2.rows
    rw [hf, firstF_map] at hq
    obtain ⟨A', c', rfl, hcc⟩ := hq.shape
    exact ⟨_, results_tmp rfl _ _ _, A', c', rfl, hq.read, hM2.below, hcc⟩
  case stop =>
    rintro D c pre W _ _ h _
    exact h.elim
theorem picks_any (a h : Nat) (bs : List Bool) (A : Option Addr) (n c : Nat) (w : World) (ha1 : 1 ≤ a) (ha : a ≤ 64) (hh1 : 1 ≤ h) (hh : h ≤ 64) (hl : bs.length = h * a) (hr : Rd w A n (bs.map Value.bool)) (hnc : n ≤ c) :
    Calls Try.prog 40 #[.agg #[.int .i64 a, .int .i64 h, .slice A n c]] w fun e w' => ∃ A' c', e = .returned (.slice A' h c') ∧ LRB w' A' ((List.range h).map (rowB a bs)) ∧ Below w.heap.size w w' :=
  (picks_cap a h bs A n c w ha1 ha hh1 hh hl hr hnc).mono fun _ _ ⟨A', c', h1, h2, h3, _⟩ => ⟨A', c', h1, h2, h3⟩
end Go.Proofs.Ytfjdlbilnoojkaa
