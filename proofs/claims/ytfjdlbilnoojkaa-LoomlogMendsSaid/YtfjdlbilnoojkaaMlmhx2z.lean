/- Parts of the proof, in their order. -/
import Derived.Test.YtfjdlbilnoojkaaMlmhx1z
import Derived.Test.YtfjdlbilnoojkaaLogz
import Derived.Lib.SmallJoins
import Derived.Deep.RegionHeld
import Derived.Test.YtfjdlbilnoojkaaMendz
import Derived.Test.YtfjdlbilnoojkaaStz
import Derived.Test.YtfjdlbilnoojkaaProg
import Derived.KernelRfl
import Derived.Handy
import Derived.Outline
/- A log that came in as an argument, opened. -/
namespace Go.Proofs.Ytfjdlbilnoojkaa
open Go.RowKit Go.ChangeShapes Go.WideShapes Go.Joins Go.Deep

theorem Try.cellsEv : Try.prog.cellsOf 59 = 2 := by kernel_rfl
theorem trod2 {H : Type} {enc : TypeId × Value → H} {P : Program} {w : World} {base fuel : Nat} {sp : Nat → Bool} {held : Bool} {t : TypeId} {f0 f1 : Field} {cs : List Value} {x : DataW H × List MemPlace}
    (hs : P.underlying t = some (.struct #[f0, f1])) (hone : oneCellFields P #[f0, f1] = true) (hC : P.cellsOf t = 2) (h : DataW.trod enc P w base sp held fuel t cs = some x) :
    ∃ (c0 c1 : Value) (y0 y1 : DataW H × List MemPlace) (n : Nat), cs = [c0, c1] ∧ DataW.trod enc P w base sp held n f0.type [c0] = some y0 ∧ DataW.trod enc P w base sp held n f1.type [c1] = some y1 := by
  obtain ⟨y0, y1, n, _, hl, h0, h1⟩ := trod_struct2 hs h
  obtain ⟨o0, k0⟩ := hone_of hone 0 f0 rfl
  obtain ⟨o1, k1⟩ := hone_of hone 1 f1 rfl
  rw [hC] at hl
  match cs, hl with
  | [c0, c1], _ => exact ⟨c0, c1, y0, y1, n, rfl, by simpa [o0, k0] using h0, by simpa [o1, k1] using h1⟩
set_option maxRecDepth 100000 in
theorem open_ev {H : Type} {enc : TypeId × Value → H} {W : World} {base fuel : Nat} {held : Bool} {cs : List Value} {x : DataW H × List MemPlace}
    (h : DataW.trod enc Try.prog W base (fun _ => true) held fuel 59 cs = some x) :
    ∃ (e : Ev) (A : Option Addr) (c : Nat), cs[0]? = some (.int .u8 e.1) ∧ cs[1]? = some (.slice A e.2.length c) ∧ Rd W A e.2.length (e.2.map Value.bool) := by
  obtain ⟨c0, c1, y0, y1, n, rfl, h0, h1⟩ := trod2 Try.underlying59 (by kernel_rfl) Try.cellsEv h
  obtain ⟨q, e0, _, _⟩ := DataW.trod_int Try.underlying5 h0
  obtain ⟨A, n, c, bs, e1, hn, hc, hr⟩ := rd_bools Try.underlying23 Try.underlying4 Try.cellsBool h1
  simp only [List.cons.injEq, and_true] at e0
  subst e0 e1
  have hl : bs.length = n := by simpa using hr.len
  subst hl
  exact ⟨(q, bs), A, c, rfl, rfl, hr⟩
set_option maxRecDepth 100000 in
theorem open_log {H : Type} {enc : TypeId × Value → H} {W : World} {base : Nat} {v : Value} {d : DataW H} {p : List MemPlace}
    (hv : Value.okWide Try.prog W .any base 22 v) (h : DataW.Trod enc Try.prog W 0 (fun _ => true) true 22 v d p) :
    ∃ (l : List Ev) (A : Option Addr) (n c : Nat), v = .slice A n c ∧ LogR W A n l ∧ n ≤ c ∧ c ≤ maxLen := by
  obtain ⟨a0, len0, cap0, rfl⟩ := okWide_slice Try.underlying22 hv
  obtain ⟨fuel, hf⟩ := h
  rcases DataW.trod_slice Try.underlying22 hf with ⟨hcs, _⟩ | ⟨a, len, cap, elems, rest, n, _, hcs, _, hb, hl, hm, hlen, hel, _⟩
  · simp only [Value.cells, List.cons.injEq, and_true] at hcs
    exact ⟨[], none, 0, 0, by simpa using hcs, ⟨rfl, fun h => absurd h (by omega)⟩, Nat.le_refl _, Nat.zero_le _⟩
  · have hv2 : Value.slice a0 len0 cap0 = .slice (some a) len cap := by simpa [Value.cells] using hcs
    have hel2 : ∀ i, ∃ (e : Ev) (A : Option Addr) (c : Nat), i < len → W.cell? (a.add (i * 2)) = some (.int .u8 e.1) ∧ W.cell? (a.add (i * 2 + 1)) = some (.slice A e.2.length c) ∧ Rd W A e.2.length (e.2.map Value.bool) := by
      intro i
      by_cases hi : i < len
      · have h1 := hel i hi
        rw [Try.cellsEv, List.getElem?_eq_getElem (by omega)] at h1
        rw [Option.bind_eq_some_iff] at h1
        obtain ⟨cs, h2, h3⟩ := h1
        obtain ⟨_, h4, h5⟩ := World.cells?_some h2
        obtain ⟨e, A, c, k0, k1, k2⟩ := open_ev h3
        refine ⟨e, A, c, fun _ => ⟨?_, ?_, k2⟩⟩
        · rw [← k0, ← h5 0 (by omega), Addr.add_add, Nat.add_zero]
        · rw [← k1, ← h5 1 (by omega), Addr.add_add]
      · exact ⟨(0, []), none, 0, fun h => absurd h hi⟩
    obtain ⟨f, hf2⟩ := Classical.axiomOfChoice hel2
    refine ⟨(List.range len).map f, some a, len, cap, hv2, ⟨by simp, fun hn => ?_⟩, hl, hm⟩
    obtain ⟨b, o, spot⟩ := a
    obtain ⟨A0, c0, h0⟩ := hf2 0
    have h00 := (h0 hn).1
    have hs : spot = none := by simpa [Addr.add] using World.cell?_spot h00
    subst hs
    have hlt : b < W.heap.size := by
      rw [Addr.add_lit] at h00
      exact World.block_lt_of_cell? W _ h00
    refine ⟨b, o, rfl, hlt, fun i q r hi => ?_⟩
    have hil : i < len := by
      have := (List.getElem?_eq_some_iff.1 hi).1
      simpa using this
    rw [List.getElem?_map, List.getElem?_range hil] at hi
    have hfi : f i = (q, r) := by simpa using hi
    obtain ⟨A1, c1, h1⟩ := hf2 i
    obtain ⟨k0, k1, k2⟩ := h1 hil
    rw [hfi] at k0 k1 k2
    rw [Addr.add_lit] at k0 k1
    exact ⟨k0, A1, c1, by rw [Nat.add_assoc]; exact k1, k2⟩
end Go.Proofs.Ytfjdlbilnoojkaa
/- What a mended log weaves, and what a log with a pick that is taken out at once weaves, plain. Nothing here names a function of the program. -/
namespace Go.Proofs.Ytfjdlbilnoojkaa
open Go.RowKit

/-- One event behind others. -/
def evF (s : Int × List (List Bool)) (e : Ev) : Int × List (List Bool) := if s.1 ≠ 0 then s else stepL s.2 e
theorem runL_app (l xs : List Ev) : runL (l ++ xs) = xs.foldl evF (runL l) := by unfold runL evF; rw [List.foldl_append]
theorem evF_zero (p : List (List Bool)) (e : Ev) : evF (0, p) e = stepL p e := rfl
theorem run_backs : ∀ (m : Nat) (p : List (List Bool)), m ≤ p.length → (List.replicate m ((2 : Int), ([] : List Bool))).foldl evF (0, p) = (0, p.take (p.length - m))
  | 0, p, _ => by simp
  | m + 1, p, h => by
    rw [List.replicate_succ, List.foldl_cons, evF_zero]
    have hp : p ≠ [] := by rintro rfl; simp at h
    have h1 : stepL p (2, []) = (0, p.dropLast) := by unfold stepL; rw [if_neg (by decide), if_pos rfl, if_neg hp]
    rw [h1, run_backs m p.dropLast (by rw [List.length_dropLast]; omega), List.length_dropLast, List.dropLast_eq_take, List.take_take]
    congr 2
    omega
theorem run_picks : ∀ (rs p : List (List Bool)), p.length + rs.length ≤ 64 → (rs.map fun r => ((1 : Int), r)).foldl evF (0, p) = (0, p ++ rs)
  | [], p, _ => by simp
  | r :: rs, p, h => by
    rw [List.length_cons] at h
    rw [List.map_cons, List.foldl_cons, evF_zero]
    have h1 : stepL p (1, r) = (0, p ++ [r]) := by unfold stepL; rw [if_pos rfl, if_neg (by omega)]
    rw [h1, run_picks rs (p ++ [r]) (by simp; omega), List.append_assoc]; rfl
theorem runL_mend {l : List Ev} {a p : List (List Bool)} (h : runL l = (0, p)) (ha : a.length ≤ 64) : runL (l ++ mendL a p) = (0, a) := by
  have hc := com_le a p
  unfold mendL mendTo
  rw [runL_app, h, List.foldl_append, run_backs _ _ (by omega), run_picks]
  · have h1 : (a.drop (comL a p)).take (a.length - comL a p) = a.drop (comL a p) := List.take_of_length_le (by rw [List.length_drop]; omega)
    rw [show p.length - (p.length - comL a p) = comL a p by omega, ← com_pre a p, h1, List.take_append_drop]
  · rw [List.length_take, List.length_take, List.length_drop]; omega
theorem mendL_len (a p : List (List Bool)) : (mendL a p).length = (p.length - comL a p) + (a.length - comL a p) := mendTo_len _ _ _
theorem mendL_ok {N : Nat} {a p : List (List Bool)} (ha : RowsN N a) : ∀ e ∈ mendL a p, evOk N e := by
  intro e he
  unfold mendL mendTo at he
  rcases List.mem_append.1 he with h | h
  · rw [List.eq_of_mem_replicate h]
    exact .inr ⟨.inl rfl, rfl⟩
  · obtain ⟨r, hr, rfl⟩ := List.mem_map.1 h
    have h1 := ha r (List.mem_of_mem_drop (List.mem_of_mem_take hr))
    exact .inl ⟨rfl, by show (r.length : Int) = N; omega⟩
theorem chkE_app {N : Int} {l xs : List Ev} (h : chkE N l = 0) (hl : l.length + xs.length ≤ 400) (hx : ∀ e ∈ xs, evOk N e) : chkE N (l ++ xs) = 0 := by
  obtain ⟨h1, _, h3⟩ := chkE_zero h
  refine chkE_ok (by omega) (by rw [List.length_append]; omega) fun e he => ?_
  rcases List.mem_append.1 he with h4 | h4
  · exact h3 e h4
  · exact hx e h4
theorem runE_zero {N : Int} {l : List Ev} (h : (runE N l).1 = 0) : chkE N l = 0 ∧ runL l = (0, (runE N l).2) := by
  unfold runE at h ⊢
  split at h
  · rename_i h1; exact absurd h h1
  · rename_i h1
    rw [if_neg h1]
    split at h
    · rename_i h2; exact absurd h h2
    · rename_i h2
      rw [if_neg h2]
      refine ⟨by simpa using h1, ?_⟩
      have h3 : (runL l).1 = 0 := by simpa using h2
      exact Prod.ext h3 rfl
/-- A log and the events that mend it weave what is wanted. -/
theorem runE_mend {N : Nat} {l : List Ev} {a p : List (List Bool)} (h : runE N l = (0, p)) (ha : a.length ≤ 64) (hr : RowsN N a) (hl : l.length + (mendL a p).length ≤ 400) : runE N (l ++ mendL a p) = (0, a) := by
  obtain ⟨h1, h2⟩ := runE_zero (N := N) (l := l) (by rw [h])
  rw [h] at h2
  exact runE_ok (chkE_app h1 hl (mendL_ok hr)) (runL_mend h2 ha)
/-- The errors of a log that is valid. -/
theorem stepL_err (p : List (List Bool)) (e : Ev) : (stepL p e).1 = 0 ∨ (stepL p e).1 = 4 ∨ (stepL p e).1 = 36 := by
  unfold stepL
  split
  · split <;> simp
  · split
    · split <;> simp
    · simp
theorem runL_err (l : List Ev) : (runL l).1 = 0 ∨ (runL l).1 = 4 ∨ (runL l).1 = 36 := by
  have : ∀ (l : List Ev) (s : Int × List (List Bool)), (s.1 = 0 ∨ s.1 = 4 ∨ s.1 = 36) → ((l.foldl evF s).1 = 0 ∨ (l.foldl evF s).1 = 4 ∨ (l.foldl evF s).1 = 36) := by
    intro l
    induction l with
    | nil => intro s h; exact h
    | cons a l ih =>
      intro s h
      rw [List.foldl_cons]
      refine ih _ ?_
      unfold evF
      split
      · exact h
      · exact stepL_err _ _
  exact this l (0, []) (.inl rfl)
theorem runE_err2 {N : Int} {l : List Ev} (h : chkE N l = 0) (h2 : (runE N l).1 ≠ 0) : (runE N l).1 = 4 ∨ (runE N l).1 = 36 := by
  unfold runE at h2 ⊢
  rw [if_neg (by simpa using h)] at h2 ⊢
  split at h2
  · rename_i h3
    rw [if_pos h3]
    rcases runL_err l with h4 | h4
    · exact absurd h4 h3
    · exact h4
  · exact absurd rfl h2
/-- The log that weaves picks at once. -/
def pickL (a : List (List Bool)) : List Ev := a.map fun r => ((1 : Int), r)
theorem pickL_ok {N : Nat} {a : List (List Bool)} (ha : RowsN N a) : ∀ e ∈ pickL a, evOk N e := by
  intro e he
  obtain ⟨r, hr, rfl⟩ := List.mem_map.1 he
  have h1 := ha r hr
  exact .inl ⟨rfl, by show (r.length : Int) = N; omega⟩
theorem runE_pick {N : Nat} {a : List (List Bool)} (h1 : 1 ≤ N) (h2 : N ≤ 40) (ha : a.length ≤ 64) (hr : RowsN N a) : runE N (pickL a) = (0, a) := by
  refine runE_ok (chkE_ok (by omega) (by unfold pickL; rw [List.length_map]; omega) (pickL_ok hr)) ?_
  have := run_picks a [] (by simpa using ha)
  exact this
/-- A pick that is taken out at once, and a mark, change nothing. -/
def moreL (a : List (List Bool)) (k : Nat) : List Ev := (pickL a).take k ++ [((1 : Int), a.getD 0 []), ((3 : Int), ([] : List Bool)), ((2 : Int), ([] : List Bool))] ++ (pickL a).drop k
theorem runE_more {N : Nat} {a : List (List Bool)} {k : Nat} (h1 : 1 ≤ N) (h2 : N ≤ 40) (h0 : 1 ≤ a.length) (ha : a.length ≤ 60) (hk : k ≤ a.length) (hr : RowsN N a) : runE N (moreL a k) = (0, a) := by
  have hlen : (moreL a k).length = a.length + 3 := by
    unfold moreL pickL
    simp
    omega
  refine runE_ok (chkE_ok (by omega) (by omega) fun e he => ?_) ?_
  · unfold moreL at he
    rcases List.mem_append.1 he with h | h
    · rcases List.mem_append.1 h with h | h
      · exact pickL_ok hr e (List.mem_of_mem_take h)
      · simp at h
        rcases h with rfl | rfl | rfl
        · have h3 := hr (a.getD 0 []) (by
            have : a.getD 0 [] = a[0] := by rw [List.getD_eq_getElem?_getD, List.getElem?_eq_getElem (by omega)]; rfl
            rw [this]
            exact List.getElem_mem _)
          exact .inl ⟨rfl, by simp only [List.getD_eq_getElem?_getD] at h3 ⊢; omega⟩
        · exact .inr ⟨.inr rfl, rfl⟩
        · exact .inr ⟨.inl rfl, rfl⟩
    · exact pickL_ok hr e (List.mem_of_mem_drop h)
  · have e1 : runL ((pickL a).take k) = (0, a.take k) := by
      unfold pickL
      rw [← List.map_take]
      exact run_picks (a.take k) [] (by rw [List.length_take, List.length_nil]; omega)
    have hkl : (a.take k).length = k := by rw [List.length_take]; omega
    have e2 : stepL (a.take k) (1, a.getD 0 []) = (0, a.take k ++ [a.getD 0 []]) := by unfold stepL; rw [if_pos rfl, if_neg (by omega)]
    have e3 : ∀ p, stepL p (3, []) = (0, p) := fun p => by unfold stepL; rw [if_neg (by decide), if_neg (by decide)]
    have e4 : stepL (a.take k ++ [a.getD 0 []]) (2, []) = (0, a.take k) := by unfold stepL; rw [if_neg (by decide), if_pos rfl, if_neg (by simp), List.dropLast_concat]
    unfold moreL
    rw [runL_app, runL_app, e1, List.foldl_cons, List.foldl_cons, List.foldl_cons, List.foldl_nil, evF_zero, e2, evF_zero, e3, evF_zero, e4]
    unfold pickL
    rw [← List.map_drop, run_picks _ _ (by rw [List.length_drop, hkl]; omega), List.take_append_drop]
theorem moreL_len {a : List (List Bool)} {k : Nat} (hk : k ≤ a.length) : (moreL a k).length = a.length + 3 := by
  unfold moreL pickL
  simp
  omega
end Go.Proofs.Ytfjdlbilnoojkaa
/- raddleref20.Great: logs larger than the statements consider. -/
namespace Go.Proofs.Ytfjdlbilnoojkaa
open Go.RowKit

theorem ret_b20 {a b : Bool} (h : a = b) : Ending.returned (.bool a) = Ending.returned (.bool b) := by rw [h]
set_option maxHeartbeats 1600000 in
theorem great20_any (l : List Ev) (A : Option Addr) (n c : Nat) (w : World) (hr : LogR w A n l) (hn : n ≤ maxLen) :
    Calls Try.prog 10 #[.slice A n c] w fun e w' => e = .returned (.bool (greatE l)) ∧ w' = w := by
  have HL := Lib.hid hr.len
  have hn63 : n ≤ 9223372036854775807 := hn
  clear hn
  go_enter Try.func10, Try.ntmps10
  go_wp2_with fail
  go_loopw [3] (fun i wr => ∃ k : Nat, k ≤ n ∧ i = .int .i64 k ∧ (∀ i q r, i < k → l[i]? = some (q, r) → r.length ≤ 50) ∧ wr = w) (fun i _ => n - (intOf i).toNat)
  case atStart => exact ⟨0, Nat.zero_le _, rfl, fun i q r h => absurd h (by omega), rfl⟩
  case round =>
    obtain ⟨k, hk, rfl, heq, rfl⟩ := hrel
    have HE := Lib.hid heq
    clear heq
    by_cases hlt : k < n
    · obtain ⟨b, o, q, r, A', c', hA, hb, hi, c1, c2, hrr⟩ := hr.at_ hlt
      subst hA
      have HI := Lib.hid hi
      clear hi
      by_cases h50 : 50 < r.length
      · have hd : decide (50 < (r.length : Int)) = true := decide_eq_true (by omega)
        go_wp2_with fail
        go_ret
        exact ⟨ret_b20 (greatE_yes HI.out h50).symm, rfl⟩
      · have hd : decide (50 < (r.length : Int)) = false := decide_eq_false (by omega)
        go_wp2_with fail
        go_roundw
        case rel => 
          refine ⟨k + 1, by omega, by go_num, fun i q' r' hi hi' => ?_, by trivial⟩
          by_cases hik : i = k
          · subst hik
            have := HI.out.symm.trans hi'
            injection this with e
            injection e with _ e2
            subst e2
            omega
          · exact HE.out i q' r' (by omega) hi'
        case measure => simp [intOf]; omega
    · have hkk : k = n := by omega
      subst hkk
      have hG := Lib.hid (greatE_rest HL.out HE.out)
      by_cases h60 : 60 < k
      · have d1 : decide (60 < (k : Int)) = true := decide_eq_true (by omega)
        by_cases h400 : k ≤ 400
        · have d2 : decide ((k : Int) ≤ 400) = true := decide_eq_true (by omega)
          have hg := Lib.hid (hG.out.trans (decide_eq_true (by omega)))
          go_wp2_with fail
          go_ret
          exact ⟨ret_b20 hg.out.symm, rfl⟩
        · have d2 : decide ((k : Int) ≤ 400) = false := decide_eq_false (by omega)
          by_cases h410 : 410 < k
          · have d3 : decide (410 < (k : Int)) = true := decide_eq_true (by omega)
            have hg := Lib.hid (hG.out.trans (decide_eq_true (by omega)))
            go_wp2_with fail
            go_ret
            exact ⟨ret_b20 hg.out.symm, rfl⟩
          · have d3 : decide (410 < (k : Int)) = false := decide_eq_false (by omega)
            have hg := Lib.hid (hG.out.trans (decide_eq_false (by omega)))
            go_wp2_with fail
            go_ret
            exact ⟨ret_b20 hg.out.symm, rfl⟩
      · have d1 : decide (60 < (k : Int)) = false := decide_eq_false (by omega)
        have d3 : decide (410 < (k : Int)) = false := decide_eq_false (by omega)
        have hg := Lib.hid (hG.out.trans (decide_eq_false (by omega)))
        go_wp2_with fail
        go_ret
        exact ⟨ret_b20 hg.out.symm, rfl⟩
end Go.Proofs.Ytfjdlbilnoojkaa
