/- What the laws of layer 7 ask of operations and least forms. No program in sight. -/
import Derived.Test.YtliibficmdomjaaDoorFormQz
namespace Go.Proofs.YtliibficmdomjaaDoor
open Go.RowKit

theorem filter_head {S : Nat → Bool} {n : Nat} (hS : S n = true) (hl : ∀ o, o < n → S o = false) : ∀ k, n < k → ∃ l, (List.range k).filter S = n :: l
  | 0, h => absurd h (Nat.not_lt_zero _)
  | k + 1, h => by
    rw [List.range_succ, List.filter_append]
    rcases Nat.lt_or_ge n k with h1 | h1
    · obtain ⟨l, e⟩ := filter_head hS hl k h1
      exact ⟨_, by rw [e, List.cons_append]⟩
    · obtain rfl : n = k := by omega
      have e : (List.range n).filter S = [] := by
        rw [List.filter_eq_nil_iff]
        intro o ho
        rw [hl o (List.mem_range.1 ho)]
        simp
      exact ⟨[], by rw [e]; simp [hS]⟩
theorem pair_len : ∀ {l r : List Nat}, l.Pairwise (fun a b => a ≠ b) → (∀ x, x ∈ l → x ∈ r) → l.length ≤ r.length
  | [], _, _, _ => Nat.zero_le _
  | x :: xs, r, h, k => by
    have hx := k x List.mem_cons_self
    have h1 := pair_len (l := xs) (r := r.erase x) (List.pairwise_cons.1 h).2 (fun y hy => (List.mem_erase_of_ne (fun e => (List.pairwise_cons.1 h).1 y hy e.symm)).2 (k y (List.mem_cons_of_mem _ hy)))
    rw [List.length_erase_of_mem hx] at h1
    have h2 := List.length_pos_of_mem hx
    rw [List.length_cons]
    omega
theorem filter_le {S T : Nat → Bool} {f : Nat → Nat} {k : Nat} (hf : ∀ m, m < k → S m = true → f m < k ∧ T (f m) = true) (hi : ∀ m n, m < k → n < k → S m = true → S n = true → f m = f n → m = n) :
    ((List.range k).filter S).length ≤ ((List.range k).filter T).length := by
  have h := pair_len (l := ((List.range k).filter S).map f) (r := (List.range k).filter T) ?_ ?_
  · simpa using h
  · rw [List.pairwise_map]
    refine List.Pairwise.imp_of_mem ?_ ((List.pairwise_lt_range (n := k)).filter _)
    intro m n hm hn hlt e
    rw [List.mem_filter, List.mem_range] at hm hn
    have := hi m n hm.1 hn.1 hm.2 hn.2 e
    omega
  · intro x hx
    obtain ⟨m, hm, rfl⟩ := List.mem_map.1 hx
    rw [List.mem_filter, List.mem_range] at hm
    rw [List.mem_filter, List.mem_range]
    exact hf m hm.1 hm.2
theorem inv_inv_all : ((List.range 16).all fun m => decide (invN (invN m) = m)) = true := by decide +kernel
theorem inv_inv {m : Nat} (h : m < 16) : invN (invN m) = m := by
  have k := inv_inv_all
  simp only [List.all_eq_true, List.mem_range, decide_eq_true_eq] at k
  exact k m h
theorem comp_right {m n k : Nat} (hm : m < 16) (hn : n < 16) (hk : k < 16) (h : compN m k = compN n k) : m = n := by
  have e1 : compN (compN m k) (invN k) = m := by rw [comp_assoc hm hk (invN_lt hk), (comp_inv hk).1, (comp_inv hm).2.2.2]
  have e2 : compN (compN n k) (invN k) = n := by rw [comp_assoc hn hk (invN_lt hk), (comp_inv hk).1, (comp_inv hn).2.2.2]
  rw [← e1, h, e2]
section
variable {g g' : Gd} (hg : chkG g = 0) (hg' : chkG g' = 0)
include hg hg'
theorem meet_alk (m : Nat) : meetN (appT g m) g' = true ↔ AlkG g g' m := by
  obtain ⟨a, b, e1, e2, h1, _, h2, _, _⟩ := chkG_sides (appT_chk hg m)
  obtain ⟨a', b', f1, f2, h1', _, h2', _, _⟩ := chkG_sides hg'
  exact meetN_iff (by rw [e1]; simpa) (by rw [e2]; simpa) (by rw [f1]; simpa) (by rw [f2]; simpa)
theorem alk_mem {x : Int} : x ∈ alkL g g' ↔ ∃ m : Nat, m < 16 ∧ AlkG g g' m ∧ x = (m : Int) := by
  unfold alkL
  rw [List.mem_map]
  constructor
  · rintro ⟨m, hm, rfl⟩
    rw [List.mem_filter, List.mem_range] at hm
    exact ⟨m, hm.1, (meet_alk hg hg' m).1 hm.2, rfl⟩
  · rintro ⟨m, hm, h, rfl⟩
    exact ⟨m, by rw [List.mem_filter, List.mem_range]; exact ⟨hm, (meet_alk hg hg' m).2 h⟩, rfl⟩
theorem alk_at {k : Nat} (hk : k < (alkL g g').length) : ∃ m : Nat, m < 16 ∧ AlkG g g' m ∧ (alkL g g').getD k 0 = (m : Int) ∧ (m : Int) ∈ alkL g g' := by
  have h : (alkL g g').getD k 0 ∈ alkL g g' := by
    rw [List.getD_eq_getElem?_getD, List.getElem?_eq_getElem hk, Option.getD_some]
    exact List.getElem_mem hk
  obtain ⟨m, h1, h2, h3⟩ := (alk_mem hg hg').1 h
  exact ⟨m, h1, h2, h3, by rw [← h3]; exact h⟩
omit hg hg' in
theorem alk_len : (alkL g g').length ≤ 16 := by
  unfold alkL
  rw [List.length_map]
  exact Nat.le_trans (List.length_filter_le _ _) (by simp)
theorem alk_inv {m : Nat} (hm : m < 16) (h : AlkG g g' m) : ((invN m : Nat) : Int) ∈ alkL g' g := (alk_mem hg' hg).2 ⟨_, invN_lt hm, AlkG.inv hg hg' hm h, rfl⟩
theorem alk_le : (alkL g g').length ≤ (alkL g' g).length := by
  unfold alkL
  rw [List.length_map, List.length_map]
  refine filter_le (f := invN) (fun m hm h => ⟨invN_lt hm, (meet_alk hg' hg _).2 (AlkG.inv hg hg' hm ((meet_alk hg hg' m).1 h))⟩) fun m n hm hn _ _ e => ?_
  rw [← inv_inv hm, e, inv_inv hn]
theorem alk_own (h : alkL g g' ≠ []) : (alkL g g').length = (alkL g g).length := by
  obtain ⟨x, hx⟩ := List.exists_mem_of_ne_nil _ h
  obtain ⟨o, ho, ha, _⟩ := (alk_mem hg hg').1 hx
  have hb := AlkG.inv hg hg' ho ha
  apply Nat.le_antisymm
  · unfold alkL
    rw [List.length_map, List.length_map]
    exact filter_le (f := fun m => compN m (invN o)) (fun m hm h => ⟨compN_lt hm (invN_lt ho), (meet_alk hg hg _).2 (((meet_alk hg hg' m).1 h).comp hg hg' hm (invN_lt ho) hb)⟩) fun m n hm hn _ _ e => comp_right hm hn (invN_lt ho) e
  · unfold alkL
    rw [List.length_map, List.length_map]
    exact filter_le (f := fun m => compN m o) (fun m hm h => ⟨compN_lt hm ho, (meet_alk hg hg' _).2 (((meet_alk hg hg m).1 h).comp hg hg hm ho ha)⟩) fun m n hm hn _ _ e => comp_right hm hn ho e
end
theorem alk_two {g g' : Gd} (hg : chkG g = 0) (hg' : chkG g' = 0) : (alkL g g').length = (alkL g' g).length := Nat.le_antisymm (alk_le hg hg') (alk_le hg' hg)
/-- Alike cloths, and no others, have the same least form. -/
theorem alk_least {g g' : Gd} (hg : startG g = 0) (hg' : startG g' = 0) : ((leastG g).1.1 = (leastG g').1.1) ↔ alkL g g' ≠ [] := by
  obtain ⟨e1, l1⟩ := leastG_is hg
  obtain ⟨e2, l2⟩ := leastG_is hg'
  have c1 := (startG_zero hg).1
  have c2 := (startG_zero hg').1
  rw [e1, e2]
  constructor
  · intro h
    obtain ⟨o, ho, ha⟩ := same_alike c1 l1 c2 l2 h
    exact List.ne_nil_of_mem ((alk_mem c1 c2).2 ⟨o, ho, ha, rfl⟩)
  · intro h
    obtain ⟨x, hx⟩ := List.exists_mem_of_ne_nil _ h
    obtain ⟨o, ho, ha, _⟩ := (alk_mem c1 c2).1 hx
    exact least_same c1 l1 c2 l2 ho ha
/-- The operations of a cloth. -/
theorem alk_group {g : Gd} (hg : chkG g = 0) : (∃ l, alkL g g = 0 :: l) ∧ 16 % (alkL g g).length = 0 := by
  have h0 : meetN (appT g 0) g = true := (meet_alk hg hg 0).2 (alkG_zero hg)
  constructor
  · obtain ⟨l, e⟩ := filter_head (S := fun m => meetN (appT g m) g) (n := 0) h0 (fun o h => absurd h (Nat.not_lt_zero _)) 16 (by omega)
    exact ⟨_, by unfold alkL; rw [e, List.map_cons]; rfl⟩
  · unfold alkL
    rw [List.length_map]
    exact group_div (S := fun m => meetN (appT g m) g) h0 fun m n hm hn k1 k2 => (meet_alk hg hg _).2 (((meet_alk hg hg m).1 k1).comp hg hg hm hn ((meet_alk hg hg n).1 k2))
theorem alk_mono {g g' : Gd} {i : Nat} (h : i + 1 < (alkL g g').length) : (alkL g g').getD i 0 < (alkL g g').getD (i + 1) 0 := by
  have hp : (alkL g g').Pairwise (fun a b => a < b) := by
    unfold alkL
    rw [List.pairwise_map]
    exact ((List.pairwise_lt_range (n := 16)).filter _).imp fun h => by simpa using h
  rw [List.getD_eq_getElem?_getD, List.getD_eq_getElem?_getD, List.getElem?_eq_getElem h, List.getElem?_eq_getElem (Nat.lt_of_succ_lt h), Option.getD_some, Option.getD_some]
  exact List.pairwise_iff_getElem.1 hp _ _ _ _ (Nat.lt_succ_self i)
theorem startG_le {g : Gd} (h : chkG g = 0) (hw : g.w ≤ 16) (hh : g.h ≤ 16) : startG g = 0 := by
  unfold startG; rw [if_neg (by omega), if_neg (by omega)]
/-- The least form and its operation. -/
theorem least_facts {g : Gd} (hg : startG g = 0) : ∃ (a : Gd) (n : Nat) (l : List Int), leastG g = ((a, n), 0) ∧ n < 16 ∧ startG a = 0 ∧ Tight a ∧ AlkG g a n ∧ alkL g a = (n : Int) :: l ∧ leastG a = ((a, 0), 0) ∧
    (∀ g', startG g' = 0 → ∀ o, o < 16 → AlkG g g' o → (leastG g').1.1 = a ∧ (leastG g').2 = 0) ∧ (∀ f, Tight f → PlM a f → beforeG f a = false) ∧ a.bits.length ≤ g.bits.length ∧ a.w.toNat ≤ max g.w.toNat g.h.toNat ∧ a.h.toNat ≤ max g.w.toNat g.h.toNat := by
  obtain ⟨e1, l1⟩ := leastG_is hg
  obtain ⟨c1, w1, w2⟩ := startG_zero hg
  generalize allLs g.w.toNat g.h.toNat g.bits 16 = s at *
  obtain ⟨a, n⟩ := s
  obtain ⟨h1, h2, h3⟩ := l1.mem
  simp only at h1 h2 h3
  have hsz : a.bits.length ≤ g.bits.length ∧ a.w.toNat ≤ max g.w.toNat g.h.toNat ∧ a.h.toNat ≤ max g.w.toNat g.h.toNat := by
    have hT := appT_chk c1 n
    obtain ⟨hU, hV⟩ := PlM.rec_ hT h2.chk_ h3
    obtain ⟨p, q, f1, f2, hp1, _, hq1, _, hl⟩ := chkG_sides hT
    obtain ⟨x, y, k1, k2, hx1, _, hy1, _, hm⟩ := chkG_sides h2.chk_
    have d := rec_pos (a := p) (b := q) (bs := (appT g n).bits) hp1 hq1
    have eU : gU (appT g n) = recU p q (appT g n).bits := by unfold gU; rw [f1, f2]; simp only [Int.toNat_natCast]
    have eV : gV (appT g n) = recV p q (appT g n).bits := by unfold gV; rw [f1, f2]; simp only [Int.toNat_natCast]
    have hw := h2.w_
    have hh := h2.h_
    rw [← hU, eU] at hw
    rw [← hV, eV] at hh
    have hx : x = recU p q (appT g n).bits := by omega
    have hy : y = recV p q (appT g n).bits := by omega
    have dx := Nat.le_of_dvd hp1 d.2.2.1
    have dy := Nat.le_of_dvd hq1 d.2.2.2
    obtain ⟨ga, gb, r1, r2, _, _, _, _, hgl⟩ := chkG_sides c1
    have hT2 : (p = ga ∧ q = gb) ∨ (p = gb ∧ q = ga) := by
      have z1 : (appT g n).w = ((if n.testBit 2 then gb else ga : Nat) : Int) := by unfold appT appG appB; rw [r1, r2]; simp only [Int.toNat_natCast]
      have z2 : (appT g n).h = ((if n.testBit 2 then ga else gb : Nat) : Int) := by unfold appT appG appB; rw [r1, r2]; simp only [Int.toNat_natCast]
      rw [f1] at z1
      rw [f2] at z2
      rcases Bool.eq_false_or_eq_true (n.testBit 2) with q | q <;> simp [q] at z1 z2 <;> omega
    have hpq : y * x ≤ q * p := Nat.mul_le_mul (by omega) (by omega)
    rw [hm, hgl, k1, k2, r1, r2]
    simp only [Int.toNat_natCast]
    rcases hT2 with ⟨rfl, rfl⟩ | ⟨rfl, rfl⟩
    · exact ⟨hpq, by omega, by omega⟩
    · exact ⟨by rw [Nat.mul_comm p q]; exact hpq, by omega, by omega⟩
  have hs : startG a = 0 := by
    obtain ⟨x, y, k1, k2, _⟩ := chkG_sides h2.chk_
    obtain ⟨ga, gb, r1, r2, _⟩ := chkG_sides c1
    refine startG_le h2.chk_ ?_ ?_ <;> omega
  have hA : ∃ l, alkL g a = (n : Int) :: l := by
    obtain ⟨l, e⟩ := filter_head (S := fun m => meetN (appT g m) a) (n := n) ((meet_alk c1 h2.chk_ n).2 h3) (fun o ho => by
      rcases Bool.eq_false_or_eq_true (meetN (appT g o) a) with z | z
      · exact absurd rfl (l1.first o a ⟨by omega, h2, (meet_alk c1 h2.chk_ o).1 z⟩ ho)
      · exact z) 16 h1
    exact ⟨_, by unfold alkL; rw [e, List.map_cons]; rfl⟩
  obtain ⟨l, hA⟩ := hA
  have ho : leastG a = ((a, 0), 0) := by
    obtain ⟨f1, l2⟩ := leastG_is hs
    rw [f1, least_own c1 l1 l2]
  refine ⟨a, n, l, e1, h1, hs, h2, h3, hA, ho, ?_, fun f hf hm => least_place l1 hf hm, hsz.1, hsz.2.1, hsz.2.2⟩
  intro g' hg' o ho ha
  obtain ⟨f1, l2⟩ := leastG_is hg'
  have e := least_same c1 l1 (startG_zero hg').1 l2 ho ha
  rw [f1]
  exact ⟨e.symm, rfl⟩
end Go.Proofs.YtliibficmdomjaaDoor
