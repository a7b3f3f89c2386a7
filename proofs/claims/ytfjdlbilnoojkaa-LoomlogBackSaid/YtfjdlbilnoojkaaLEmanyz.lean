/- append of a list of events to a list of events that is the call's own. Nothing here names a function of the program. -/
import Derived.Test.YtfjdlbilnoojkaaMg3z
namespace Go.Proofs.Ytfjdlbilnoojkaa
open Go.RowKit

/-- The cells of events whose lifts lie below base. -/
def EvN (w : World) (base tE : Nat) (news : List Value) (l : List Ev) : Prop :=
  news.length = l.length * 2 ∧ (∀ u ∈ news, u.oneCell' = true) ∧ ∀ (i : Nat) (q : Int) (r : List Bool), l[i]? = some (q, r) → news[i * 2]? = some (.int .u8 q) ∧ ∃ A c, news[i * 2 + 1]? = some (.slice A r.length c) ∧ RowAt w base tE A r
section
variable {w w' : World} {base tL tE n : Nat} {v : Value} {l : List Ev}
/-- The list, and what an append of events leaves. -/
theorem LE.openL (h : LE w base tL tE v n l) (hne : tL ≠ tE) : ∃ xs, w.ownsRow base tL 2 v n xs ∧ ∀ (w' : World) (v' : Value) (m : Nat) (l2 : List Ev) (news : List Value), l2.length = m → EvN w base tE news l2 →
    w'.ownsRow base tL 2 v' (n + m) (xs ++ news) → w.grownBy w' v.ownBlock → LE w' base tL tE v' (n + m) (l ++ l2) := by
  obtain ⟨hn, xs, hx, hr⟩ := h
  refine ⟨xs, hx, fun w' v' m l2 news hm hl hx2 hg => ?_⟩
  have hxl : xs.length = n * 2 := hx.1
  have hrow : ∀ g, v.ownBlock = some g → base ≤ g ∧ ∀ cs fz, w.heap[g]? ≠ some (.cells cs tE fz) := fun g e => by
    refine ⟨(hx.lt g e).1, fun cs fz hh => ?_⟩
    rcases hx.2 with ⟨h0, _⟩ | ⟨g', cap, cur, hv, _, hB, _⟩
    · rw [h0] at e; simp [Value.ownBlock] at e
    · rw [hv] at e
      obtain rfl : g' = g := by simpa [Value.ownBlock] using e
      rw [hB] at hh
      injection hh with e1
      injection e1 with _ e2 _
      exact hne e2
  refine ⟨by rw [List.length_append, hn, hm], xs ++ news, hx2, fun i q' r' hi => ?_⟩
  by_cases hlt : i < l.length
  · rw [List.getElem?_append_left hlt] at hi
    obtain ⟨h0, A2, c2, h1, h2⟩ := hr i q' r' hi
    exact ⟨by rw [List.getElem?_append_left (by omega)]; exact h0, A2, c2, by rw [List.getElem?_append_left (by omega)]; exact h1, h2.grown hg hrow⟩
  · rw [List.getElem?_append_right (by omega)] at hi
    obtain ⟨h0, A2, c2, h1, h2⟩ := hl.2.2 _ q' r' hi
    have e1 : (i - l.length) * 2 = i * 2 - xs.length := by omega
    have e2 : (i - l.length) * 2 + 1 = i * 2 + 1 - xs.length := by omega
    refine ⟨?_, A2, c2, ?_, h2.grown hg hrow⟩
    · rw [List.getElem?_append_right (by omega), ← e1]; exact h0
    · rw [List.getElem?_append_right (by omega), ← e2]; exact h1
/-- What is read in a world that lies ahead of base. -/
theorem LogR.news {w0 : World} {b o : Nat} (h : LogR w0 (some ⟨b, o, none⟩) n l) (hn : 0 < n) (hb : Below w0.heap.size w0 w) (hbase : w0.heap.size ≤ base) :
    ∃ news, news.length = n * 2 ∧ (∀ j u, news[j]? = some u → w.cell? ((⟨b, o, none⟩ : Addr).add j) = some u) ∧ EvN w base tE news l := by
  have hl := h.len
  obtain ⟨b', o', hA, hlt, hc⟩ := h.2 hn
  injection hA with e
  injection e with e1 e2
  subst e1 e2
  have hcell : ∀ j, j < n * 2 → ∃ u, w0.cell? ⟨b, o + j, none⟩ = some u ∧ u.oneCell' = true := by
    intro j hj
    obtain ⟨x, hx⟩ : ∃ x, l[j / 2]? = some x := ⟨l[j / 2]'(by omega), List.getElem?_eq_getElem _⟩
    obtain ⟨h1, A', c, h2, _⟩ := hc (j / 2) x.1 x.2 hx
    rcases (show j = j / 2 * 2 ∨ j = j / 2 * 2 + 1 by omega) with h3 | h3
    · rw [h3]; exact ⟨_, h1, rfl⟩
    · rw [h3]; exact ⟨_, h2, rfl⟩
  refine ⟨(List.range (n * 2)).map fun j => (w0.cell? ⟨b, o + j, none⟩).getD (.bool false), by simp, ?_, by simp [hl], ?_, ?_⟩
  · intro j u hj
    have hjn : j < n * 2 := by
      have := (List.getElem?_eq_some_iff.1 hj).1
      simpa using this
    rw [List.getElem?_map, List.getElem?_range hjn, Option.map_some] at hj
    obtain ⟨u', h1, _⟩ := hcell j hjn
    rw [h1, Option.getD_some] at hj
    injection hj with hj
    subst hj
    rw [Addr.add_lit]
    exact (hb.cell (p := ⟨b, o + j, none⟩) hlt).trans h1
  · intro u hu
    obtain ⟨j, hj, rfl⟩ := List.mem_map.1 hu
    obtain ⟨u', h1, h2⟩ := hcell j (List.mem_range.1 hj)
    rw [h1]
    exact h2
  · intro i q r hi
    have hin : i < n := by
      have := (List.getElem?_eq_some_iff.1 hi).1
      omega
    obtain ⟨h1, A', c, h2, h3⟩ := hc i q r hi
    refine ⟨?_, A', c, ?_, h3.below hb, fun b' o' hA hl' => ?_⟩
    · rw [List.getElem?_map, List.getElem?_range (by omega), Option.map_some, h1]; rfl
    · rw [List.getElem?_map, List.getElem?_range (by omega), Option.map_some, ← Nat.add_assoc, h2]; rfl
    · left
      obtain ⟨b2, o2, hA2, hlt2, _⟩ := h3.at_ hl'
      rw [hA] at hA2
      injection hA2 with e
      injection e with e1 _
      omega
end
section
variable {P : Program}
theorem wp_evs (w : World) {o : Oper} {a : Act} {K : Act → World → Prop} {Q : Exit → Act → World → Prop} (s x : Operand) (t : TypeId)
    (ho : o.op = .call { callee := .builtin .append, args := #[s, x], argTypes := #[t, t] })
    (base tL tE : Nat) (i : TypeInfo) (z : Value) (ht : P.underlying t = some (.slice tL)) (hi : P.info? tL = some i) (hz : i.zero = some z)
    (hsize : i.size = 2) (hby : i.bytes = 32) (hzs : z.cells.size = 2) (hne : tL ≠ tE)
    (v : Value) (n : Nat) (l : List Ev) (hs : a.eval s = v) (hle : LE w base tL tE v n l)
    (ad : Addr) (m c' : Nat) (l2 : List Ev) (news : List Value) (hx : a.eval x = .slice (some ad) m c') (hm : l2.length = m) (hev : EvN w base tE news l2) (hnews : ∀ j u, news[j]? = some u → w.cell? (ad.add j) = some u)
    (hn : n + m ≤ 1048576) (hbase : base ≤ w.heap.size)
    (h : ∀ A cap w', LE w' base tL tE (.slice A (n + m) cap) (n + m) (l ++ l2) → w.grownBy w' v.ownBlock → (∀ g, v.ownBlock = some g → base ≤ g) → K (a.put o.dst (.slice A (n + m) cap)) w') :
    o.wp P a w K Q := by
  obtain ⟨xs, hown, happ⟩ := hle.openL hne
  refine wp_append_own w s x t ho base tL i z 2 32 ht hi hz hsize hby hzs (by omega) v n xs hs hown ad m c' news hx (by rw [hev.1, hm]) hnews hev.2.1 (by unfold maxLen; omega) (by omega) hbase ?_
  intro v' w' h2 h3 _
  have h4 := happ w' v' m l2 news hm hev h2 h3
  obtain ⟨A, c, rfl, _⟩ := h4.shape
  exact h A c w' h4 h3 (fun g e => (hown.lt g e).1)
theorem wpList_evs (w : World) {ops : Array Oper} {rest : List Oper} {o : Oper} {a : Act} {Q : Exit → Act → World → Prop} (hgd : o.guard = none) (s x : Operand) (t : TypeId)
    (ho : o.op = .call { callee := .builtin .append, args := #[s, x], argTypes := #[t, t] })
    (base tL tE : Nat) (i : TypeInfo) (z : Value) (ht : P.underlying t = some (.slice tL)) (hi : P.info? tL = some i) (hz : i.zero = some z)
    (hsize : i.size = 2) (hby : i.bytes = 32) (hzs : z.cells.size = 2) (hne : tL ≠ tE)
    (v : Value) (n : Nat) (l : List Ev) (hs : a.eval s = v) (hle : LE w base tL tE v n l)
    (ad : Addr) (m c' : Nat) (l2 : List Ev) (news : List Value) (hx : a.eval x = .slice (some ad) m c') (hm : l2.length = m) (hev : EvN w base tE news l2) (hnews : ∀ j u, news[j]? = some u → w.cell? (ad.add j) = some u)
    (hn : n + m ≤ 1048576) (hbase : base ≤ w.heap.size)
    (h : ∀ A cap w', LE w' base tL tE (.slice A (n + m) cap) (n + m) (l ++ l2) → w.grownBy w' v.ownBlock → (∀ g, v.ownBlock = some g → base ≤ g) → wpList P ops Q rest (a.put o.dst (.slice A (n + m) cap)) w') :
    wpList P ops Q (o :: rest) a w :=
  wpList_plain hgd fun _ hK => wp_evs w s x t ho base tL tE i z ht hi hz hsize hby hzs hne v n l hs hle ad m c' l2 news hx hm hev hnews hn hbase fun A cap w' h1 h2 h3 => hK _ _ (h A cap w' h1 h2 h3)
theorem step_evs (w : World) {ops : Array Oper} {o : Oper} {a : Act} {K : Act → World → Prop} {Q : Exit → Act → World → Prop} {E : Prop} (hgd : o.guard = none) (s x : Operand) (t : TypeId)
    (ho : o.op = .call { callee := .builtin .append, args := #[s, x], argTypes := #[t, t] })
    (base tL tE : Nat) (i : TypeInfo) (z : Value) (ht : P.underlying t = some (.slice tL)) (hi : P.info? tL = some i) (hz : i.zero = some z)
    (hsize : i.size = 2) (hby : i.bytes = 32) (hzs : z.cells.size = 2) (hne : tL ≠ tE)
    (v : Value) (n : Nat) (l : List Ev) (hs : a.eval s = v) (hle : LE w base tL tE v n l)
    (ad : Addr) (m c' : Nat) (l2 : List Ev) (news : List Value) (hx : a.eval x = .slice (some ad) m c') (hm : l2.length = m) (hev : EvN w base tE news l2) (hnews : ∀ j u, news[j]? = some u → w.cell? (ad.add j) = some u)
    (hn : n + m ≤ 1048576) (hbase : base ≤ w.heap.size)
    (h : ∀ A cap w', LE w' base tL tE (.slice A (n + m) cap) (n + m) (l ++ l2) → w.grownBy w' v.ownBlock → (∀ g, v.ownBlock = some g → base ≤ g) → K (a.put o.dst (.slice A (n + m) cap)) w') :
    if Region.wanted o (yielded ops a.tmps) = true then Oper.wp P o a w K Q else E := by
  have hw : Region.wanted o (yielded ops a.tmps) = true := by simp [Region.wanted, hgd]
  rw [if_pos hw]
  exact wp_evs w s x t ho base tL tE i z ht hi hz hsize hby hzs hne v n l hs hle ad m c' l2 news hx hm hev hnews hn hbase h
/-- The source is a log that is read. -/
theorem wp_evs_log (w : World) {o : Oper} {a : Act} {K : Act → World → Prop} {Q : Exit → Act → World → Prop} (s x : Operand) (t : TypeId)
    (ho : o.op = .call { callee := .builtin .append, args := #[s, x], argTypes := #[t, t] })
    (base tL tE : Nat) (i : TypeInfo) (z : Value) (ht : P.underlying t = some (.slice tL)) (hi : P.info? tL = some i) (hz : i.zero = some z)
    (hsize : i.size = 2) (hby : i.bytes = 32) (hzs : z.cells.size = 2) (hne : tL ≠ tE)
    (v : Value) (n : Nat) (l : List Ev) (hs : a.eval s = v) (hle : LE w base tL tE v n l)
    (A2 : Option Addr) (m c' : Nat) (l2 : List Ev) (w0 : World) (hx : a.eval x = .slice A2 m c') (hlog : LogR w0 A2 m l2) (hb0 : Below w0.heap.size w0 w) (hb1 : w0.heap.size ≤ base)
    (hn : n + m ≤ 1048576) (hbase : base ≤ w.heap.size)
    (h : ∀ A cap w', LE w' base tL tE (.slice A (n + m) cap) (n + m) (l ++ l2) → w.grownBy w' v.ownBlock → (∀ g, v.ownBlock = some g → base ≤ g) → K (a.put o.dst (.slice A (n + m) cap)) w') :
    o.wp P a w K Q := by
  cases A2 with
  | none =>
    obtain rfl : m = 0 := by
      rcases Nat.eq_zero_or_pos m with h1 | h1
      · exact h1
      · obtain ⟨b, o, h2, _⟩ := hlog.2 h1
        cases h2
    obtain rfl : l2 = [] := List.eq_nil_of_length_eq_zero hlog.len
    obtain ⟨A, c, rfl, _⟩ := hle.shape
    obtain ⟨xs, hown, _⟩ := hle.openL hne
    have hrun : (Builtin.append_ #[t, t] o.type #[.slice A n c, .slice none 0 c']).run P w = .ok (.slice A n c) w := by
      rcases hown.2 with ⟨hv, h0⟩ | ⟨g, cap, cur, hv, _, _, hnc, _⟩
      · injection hv with e1 e2 e3
        subst e1 e2 e3
        simp [Builtin.append_, run_underlying ht, sizeOf, typeInfo, hi, Builtin.lenOf, Builtin.firstCells]
      · injection hv with e1 e2 e3
        subst e1 e3
        simp [Builtin.append_, run_underlying ht, sizeOf, typeInfo, hi, Builtin.lenOf, Builtin.firstCells, hnc, storeCells]
    have h2 := h A c w (by rw [List.append_nil]; exact hle) (below_grown (Below.refl _ _) _) (fun g e => (hown.lt g e).1)
    unfold Oper.wp execOp
    simp only [ho, resolve, invoke, builtin, Sem.run_bind, Sem.run_pure, Result.andThen_ok, List.map_toArray, List.map_cons, List.map_nil, hs, hx, hrun]
    exact h2
  | some ad =>
    rcases Nat.eq_zero_or_pos m with rfl | h1
    · obtain rfl : l2 = [] := List.eq_nil_of_length_eq_zero hlog.len
      exact wp_evs w s x t ho base tL tE i z ht hi hz hsize hby hzs hne v n l hs hle ad 0 c' [] [] hx rfl ⟨rfl, fun u hu => by simp at hu, fun i q r hi => by simp at hi⟩ (fun j u hj => by simp at hj) hn hbase h
    · obtain ⟨b, o', h2, _⟩ := hlog.2 h1
      injection h2 with h2
      subst h2
      obtain ⟨news, h3, h4, h5⟩ := hlog.news (tE := tE) h1 hb0 hb1
      exact wp_evs w s x t ho base tL tE i z ht hi hz hsize hby hzs hne v n l hs hle _ m c' l2 news hx hlog.len h5 h4 hn hbase h
theorem wpList_evs_log (w : World) {ops : Array Oper} {rest : List Oper} {o : Oper} {a : Act} {Q : Exit → Act → World → Prop} (hgd : o.guard = none) (s x : Operand) (t : TypeId)
    (ho : o.op = .call { callee := .builtin .append, args := #[s, x], argTypes := #[t, t] })
    (base tL tE : Nat) (i : TypeInfo) (z : Value) (ht : P.underlying t = some (.slice tL)) (hi : P.info? tL = some i) (hz : i.zero = some z)
    (hsize : i.size = 2) (hby : i.bytes = 32) (hzs : z.cells.size = 2) (hne : tL ≠ tE)
    (v : Value) (n : Nat) (l : List Ev) (hs : a.eval s = v) (hle : LE w base tL tE v n l)
    (A2 : Option Addr) (m c' : Nat) (l2 : List Ev) (w0 : World) (hx : a.eval x = .slice A2 m c') (hlog : LogR w0 A2 m l2) (hb0 : Below w0.heap.size w0 w) (hb1 : w0.heap.size ≤ base)
    (hn : n + m ≤ 1048576) (hbase : base ≤ w.heap.size)
    (h : ∀ A cap w', LE w' base tL tE (.slice A (n + m) cap) (n + m) (l ++ l2) → w.grownBy w' v.ownBlock → (∀ g, v.ownBlock = some g → base ≤ g) → wpList P ops Q rest (a.put o.dst (.slice A (n + m) cap)) w') :
    wpList P ops Q (o :: rest) a w :=
  wpList_plain hgd fun _ hK => wp_evs_log w s x t ho base tL tE i z ht hi hz hsize hby hzs hne v n l hs hle A2 m c' l2 w0 hx hlog hb0 hb1 hn hbase fun A cap w' h1 h2 h3 => hK _ _ (h A cap w' h1 h2 h3)
end
end Go.Proofs.Ytfjdlbilnoojkaa
