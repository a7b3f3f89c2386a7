/- A queue: a slice of elements of s cells each that is eaten at its head and grows at its end. Nothing here names a function of the program. -/
import Derived.Test.YtmajmbfbnchbfaaLibz
import Derived.Deep.AppendSrc
import Derived.Deep.AppendLies
namespace Go.Proofs.Ytmajmbfbnchbfaa
open Go.RowKit

/-- The slice v of n elements of s cells each reads xs; its block is the call's own, from base on. -/
def Queue (w : World) (base : Nat) (e : TypeId) (s : Nat) (v : Value) (n : Nat) (xs : List Value) : Prop :=
  xs.length = n * s ∧ ∃ g off cap cur, v = .slice (some ⟨g, off, none⟩) n cap ∧ base ≤ g ∧ Blk w g e cur ∧ n ≤ cap ∧ off + cap * s ≤ cur.size ∧ (cur.toList.drop off).take (n * s) = xs

section
variable {w w' : World} {base : Nat} {e : TypeId} {s n : Nat} {v : Value} {xs : List Value}
theorem Queue.new (w : World) (base : Nat) (e : TypeId) (cs : Array Value) (hb : base ≤ w.heap.size) : Queue (w.alloc (.cells cs e)) base e cs.size (.slice (some ⟨w.heap.size, 0, none⟩) 1 1) 1 cs.toList :=
  ⟨by simp, w.heap.size, 0, 1, cs, rfl, hb, Blk.new w e cs, Nat.le_refl _, by simp, by rw [Nat.one_mul, List.drop_zero]; exact List.take_of_length_le (by simp)⟩
theorem Queue.blk (h : Queue w base e s v n xs) : ∃ g, v.ownBlock = some g ∧ base ≤ g ∧ g < w.heap.size := by
  obtain ⟨_, g, off, cap, cur, rfl, hb, hg, _⟩ := h
  exact ⟨g, rfl, hb, hg.lt⟩
theorem Queue.kept {row : Option Nat} (h : Queue w base e s v n xs) (hg : w.grownBy w' row) (hne : v.ownBlock ≠ row) : Queue w' base e s v n xs := by
  obtain ⟨hl, g, off, cap, cur, rfl, hb, hB, rest⟩ := h
  exact ⟨hl, g, off, cap, cur, rfl, hb, (hg.block g hB.lt hne).trans hB, rest⟩
theorem Queue.keep (h : Queue w base e s v n xs) (hb : Below w.heap.size w w') : Queue w' base e s v n xs := by
  obtain ⟨g, hv, _, _⟩ := h.blk
  exact h.kept (below_grown hb none) (by rw [hv]; simp)
theorem Queue.drew (h : Queue w base e s v n xs) : Queue w.drew base e s v n xs := h
theorem Queue.alloc (h : Queue w base e s v n xs) (o : Obj) : Queue (w.alloc o) base e s v n xs := by
  obtain ⟨g, hv, _, _⟩ := h.blk
  exact h.kept (World.grownBy_alloc w o none) (by rw [hv]; simp)
theorem Queue.far (h : Queue w base e s v n xs) {p : Addr} (hp : some p.block ≠ v.ownBlock) (u : Value) : Queue (w.setCell p u) base e s v n xs :=
  h.kept (row := some p.block) ⟨rfl, rfl, rfl, by simp [World.setCell], fun k _ hk => Below.heap_setCell w p u k (fun e => hk (by rw [e]))⟩ (fun e => hp e.symm)
theorem Queue.head (h : Queue w base e s v (n + 1) xs) : ∃ g off cap, v = .slice (some ⟨g, off, none⟩) (n + 1) cap ∧ n + 1 ≤ cap ∧ ∀ j u, j < s → xs[j]? = some u → w.cell? ⟨g, off + j, none⟩ = some u := by
  obtain ⟨hl, g, off, cap, cur, rfl, hb, hB, hc, hsz, ht⟩ := h
  refine ⟨g, off, cap, rfl, hc, fun j u hj hu => ?_⟩
  rw [hB.cell]
  have hlt : j < (n + 1) * s := by rw [Nat.succ_mul]; omega
  rw [← ht, List.getElem?_take, if_pos hlt, List.getElem?_drop] at hu
  simpa using hu
theorem Queue.tail {g off cap : Nat} (h : Queue w base e s (.slice (some ⟨g, off, none⟩) (n + 1) cap) (n + 1) xs) : Queue w base e s (.slice (if cap = 1 then some ⟨g, off, none⟩ else some ⟨g, off + s, none⟩) n (cap - 1)) n (xs.drop s) := by
  obtain ⟨hl, g', off', cap', cur, hv, hb, hB, hc, hsz, ht⟩ := h
  injection hv with h1 h2 h3
  injection h1 with h1
  injection h1 with h1 h4
  subst h1 h3 h4
  have hl2 : (xs.drop s).length = n * s := by rw [List.length_drop, hl, Nat.succ_mul]; omega
  refine ⟨hl2, ?_⟩
  by_cases h : cap = 1
  · subst h
    obtain rfl : n = 0 := by omega
    rw [if_pos rfl]
    refine ⟨g, off, 0, cur, rfl, hb, hB, Nat.le_refl _, by omega, ?_⟩
    simp only [Nat.zero_mul, List.take_zero] at hl2 ⊢
    exact (List.length_eq_zero_iff.1 hl2).symm
  · rw [if_neg h]
    refine ⟨g, off + s, cap - 1, cur, rfl, hb, hB, by omega, ?_, ?_⟩
    · obtain ⟨c, rfl⟩ : ∃ c, cap = c + 1 := ⟨cap - 1, by omega⟩
      rw [Nat.succ_mul] at hsz
      simp only [Nat.add_sub_cancel]
      omega
    · rw [← ht, List.drop_take, List.drop_drop]
      rw [show (n + 1) * s - s = n * s by rw [Nat.succ_mul]; omega]
theorem blk_mid {g : Nat} {t : TypeId} : ∀ (vs old pre post : List Value) (w : World), old.length = vs.length → Blk w g t (pre ++ old ++ post).toArray → Blk (w.setCells g pre.length vs) g t (pre ++ vs ++ post).toArray
  | [], [], _, _, _, _, h => h
  | [], _ :: _, _, _, _, hl, _ => by simp at hl
  | _ :: _, [], _, _, _, hl, _ => by simp at hl
  | v :: vs, x :: old, pre, post, w, hl, h => by
    have h1 := h.set_ pre.length v
    have e : (pre ++ x :: old ++ post).toArray.setIfInBounds pre.length v = ((pre ++ [v]) ++ old ++ post).toArray := by
      simp [List.setIfInBounds_toArray]
    rw [e] at h1
    have h2 := blk_mid vs old (pre ++ [v]) post _ (by simpa using hl) h1
    rw [List.length_append, List.length_singleton] at h2
    have e2 : pre ++ v :: vs ++ post = pre ++ [v] ++ vs ++ post := by simp
    rw [e2]
    exact h2
theorem grown_setCells {g : Nat} : ∀ (vs : List Value) (o : Nat) (w w1 : World), w.grownBy w1 (some g) → w.grownBy (w1.setCells g o vs) (some g)
  | [], _, _, _, h => h
  | v :: vs, o, w, w1, h => grown_setCells vs (o + 1) w _ ⟨h.os, h.tape, h.output, by simpa [World.setCell] using h.size, fun k hk hne => by
      rw [Below.heap_setCell w1 ⟨g, o, none⟩ v k (fun e => hne (by rw [e]))]
      exact h.block k hk hne⟩
/-- An append of one element that lies in a block of its own. -/
theorem Queue.push {P : Program} {t ty : TypeId} {i : TypeInfo} {z : Value} {bytes b : Nat} {news : List Value} (h : Queue w base e s v n xs) (hbase : base ≤ w.heap.size) (ht : P.underlying t = some (.slice e)) (hi : P.info? e = some i) (hz : i.zero = some z) (hsz : i.size = s) (hby : i.bytes = bytes) (hzs : z.cells.size = s) (hb24 : bytes ≤ 24)
    (hnl : news.length = s) (hnews : ∀ j u, news[j]? = some u → w.cell? ⟨b, j, none⟩ = some u) (h1 : ∀ u ∈ news, u.oneCell' = true) (hn : n + 1 ≤ 1048576) :
    ∃ v' w', (Builtin.append_ #[t, t] ty #[v, .slice (some ⟨b, 0, none⟩) 1 1]).run P w = .ok v' w' ∧ Queue w' base e s v' (n + 1) (xs ++ news) ∧ w.grownBy w' v.ownBlock ∧ (v'.ownBlock = v.ownBlock ∨ v'.ownBlock = some w.heap.size) := by
  subst hsz hby
  obtain ⟨hl, g, off, cap, cur, rfl, hb, hB, hc, hcs, hxs⟩ := h
  have hsrc : Src P i.size t (.slice (some ⟨b, 0, none⟩) 1 1) 1 news w := Src.ofSlice w ht ⟨b, 0, none⟩ 1 1 news (by omega) (fun j u hu => by rw [Addr.add_lit, Nat.zero_add]; exact hnews j u hu) h1
  have hll : (xs ++ news).length = (n + 1) * i.size := by rw [List.length_append, hl, hnl, Nat.succ_mul]
  by_cases hroom : n + 1 ≤ cap
  · have hfit : off + n * i.size + news.length ≤ cur.size := by
      have : (n + 1) * i.size ≤ cap * i.size := Nat.mul_le_mul_right _ hroom
      rw [Nat.succ_mul] at this
      omega
    have hr := run_append_room_src (P := P) w t t ty e i ht hi g off n cap (.slice (some ⟨b, 0, none⟩) 1 1) 1 news hsrc hroom (fun j hj => by
      rw [hB.cell]
      simp
      omega) (fun j hj => hB.frozen _)
    have hoff : off ≤ cur.toList.length := by simp; omega
    obtain ⟨pre, mid, old, post, hcur, hp, hm, ho⟩ : ∃ pre mid old post : List Value, cur.toList = pre ++ mid ++ old ++ post ∧ pre.length = off ∧ mid = xs ∧ old.length = news.length := by
      refine ⟨cur.toList.take off, (cur.toList.drop off).take (n * i.size), ((cur.toList.drop off).drop (n * i.size)).take news.length, ((cur.toList.drop off).drop (n * i.size)).drop news.length, ?_, ?_, hxs, ?_⟩
      · rw [List.append_assoc, List.take_append_drop, List.append_assoc, List.take_append_drop, List.take_append_drop]
      · rw [List.length_take]; omega
      · rw [List.length_take, List.length_drop, List.length_drop]
        simp
        omega
    subst hm
    have hB2 : Blk w g e (pre ++ mid ++ old ++ post).toArray := by rw [← hcur]; exact hB
    have hB3 := blk_mid news old (pre ++ mid) post w ho hB2
    have hpl : (pre ++ mid).length = off + n * i.size := by rw [List.length_append, hp, hl]
    rw [hpl] at hB3
    have hsz2 : cur.size = pre.length + mid.length + old.length + post.length := by
      have := congrArg List.length hcur
      simpa [Nat.add_assoc] using this
    refine ⟨_, _, hr, ⟨hll, g, off, cap, (pre ++ mid ++ news ++ post).toArray, rfl, hb, hB3, hroom, ?_, ?_⟩, grown_setCells _ _ _ _ ⟨rfl, rfl, rfl, Nat.le_refl _, fun _ _ _ => rfl⟩, .inl rfl⟩
    · simp only [List.size_toArray, List.length_append]
      omega
    · have e1 : (pre ++ mid ++ news ++ post) = pre ++ ((mid ++ news) ++ post) := by simp
      simp only [e1]
      rw [← hp, List.drop_left, List.take_append_of_le_length (by omega), List.take_of_length_le (by omega)]
  · have hadd : ∀ j u, xs[j]? = some u → w.drew.cell? ((⟨g, off, none⟩ : Addr).add j) = some u := fun j u hu => by
      rw [Addr.add_lit]
      have hlt : j < n * i.size := by
        have := (List.getElem?_eq_some_iff.1 hu).1
        omega
      rw [hB.drew.cell]
      rw [← hxs, List.getElem?_take, if_pos hlt, List.getElem?_drop] at hu
      simpa using hu
    have hold := run_firstCells_some (P := P) w.drew i.size n ⟨g, off, none⟩ n cap xs hl hadd
    have hr := run_append_grow_src (P := P) w t t ty e i z ht hi hz (some ⟨g, off, none⟩) n cap xs hold (.slice (some ⟨b, 0, none⟩) 1 1) 1 news hsrc (by omega) (by omega) (growslice_fits (by omega) (Nat.le_trans (Nat.mul_le_mul_left _ hb24) (add_maxLen hn).2))
    have hge := grownCap_ge w (n + 1) cap e
    refine ⟨_, _, hr, ⟨hll, w.heap.size, 0, _, _, rfl, hbase, by simpa using Blk.new w.drew e _, hge, ?_, ?_⟩, ⟨rfl, rfl, rfl, by simp, fun k hk _ => (World.grownBy_alloc w.drew _ none).block k hk (by simp)⟩, .inr rfl⟩
    · rw [Array.size_append, size_zeroCells, List.size_toArray, hll, hzs, Nat.zero_add, ← Nat.add_mul]
      exact Nat.mul_le_mul_right _ (by omega)
    · simp only [Array.toList_append, List.drop_zero]
      rw [List.take_append_of_le_length (by simp [hll]), List.take_of_length_le (by simp [hll])]
/-- The operation, at the list of a plain region's operations. -/
theorem wpList_push {P : Program} {ops : Array Oper} {rest : List Oper} {o : Oper} {a : Act} {Q : Exit → Act → World → Prop} (hgd : o.guard = none) (sx x : Operand) (t : TypeId) (ho : o.op = .call { callee := .builtin .append, args := #[sx, x], argTypes := #[t, t] })
    (base : Nat) (e : TypeId) (s : Nat) (i : TypeInfo) (z : Value) (bytes b n : Nat) (v : Value) (xs news : List Value) (ht : P.underlying t = some (.slice e)) (hi : P.info? e = some i) (hz : i.zero = some z) (hsz : i.size = s) (hby : i.bytes = bytes) (hzs : z.cells.size = s) (hb24 : bytes ≤ 24)
    (hs : a.eval sx = v) (hx : a.eval x = .slice (some ⟨b, 0, none⟩) 1 1) (hq : Queue w base e s v n xs) (hbase : base ≤ w.heap.size) (hnl : news.length = s) (hnews : ∀ j u, news[j]? = some u → w.cell? ⟨b, j, none⟩ = some u) (h1 : ∀ u ∈ news, u.oneCell' = true) (hn : n + 1 ≤ 1048576)
    (h : ∀ v' w', Queue w' base e s v' (n + 1) (xs ++ news) → w.grownBy w' v.ownBlock → (v'.ownBlock = v.ownBlock ∨ v'.ownBlock = some w.heap.size) → wpList P ops Q rest (a.put o.dst v') w') : wpList P ops Q (o :: rest) a w := by
  refine wpList_plain hgd fun _ hK => ?_
  obtain ⟨v', w', hr, h2, h3, h4⟩ := hq.push (P := P) (t := t) (ty := o.type) hbase ht hi hz hsz hby hzs hb24 hnl hnews h1 hn
  unfold Oper.wp execOp
  simp only [ho, resolve, invoke, builtin, Sem.run_bind, Sem.run_pure, Result.andThen_ok, List.map_toArray, List.map_cons, List.map_nil, hs, hx, hr]
  exact hK _ _ (h v' w' h2 h3 h4)
end
end Go.Proofs.Ytmajmbfbnchbfaa
