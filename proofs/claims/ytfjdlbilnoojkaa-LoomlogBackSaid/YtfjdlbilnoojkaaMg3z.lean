/- Parts of the proof, in their order. -/
import Derived.Test.YtfjdlbilnoojkaaMg2z
import Derived.Test.YtfjdlbilnoojkaaStz
import Derived.Test.YtfjdlbilnoojkaaLEz
/- peg.Check and raddleref18.Check: lifts of at most 40 shafts. -/
namespace Go.Proofs.Ytfjdlbilnoojkaa
open Go.RowKit

/-- The error of lifts. -/
def chkP (W H : Int) (n : Nat) : Int := if chk W H n ≠ 0 then chk W H n else if 40 < W then 8 else 0
set_option maxHeartbeats 1000000 in
theorem pcheck_any (W H : Int) (A : Option Addr) (n c : Nat) (w : World) :
    Calls Try.prog 39 #[.agg #[.int .i64 W, .int .i64 H, .slice A n c]] w fun e w' => e = .returned (.int .i64 (chkP W H n)) ∧ Below w.heap.size w w' := by
  have S0 := (St.start w).box #[.int .i64 W, .int .i64 H, .slice A n c] 25
  simp only [List.nil_append] at S0
  have HC := Lib.hid (fun w => check_any W H A n c w)
  have hP := Lib.hid (show chkP W H n = if chk W H n ≠ 0 then chk W H n else if 40 < W then 8 else 0 from rfl)
  generalize chkP W H n = r at *
  generalize chk W H n = k at *
  obtain ⟨c0, c1, c2⟩ := (S0.blk 0 rfl).cell3
  by_cases hk : k = 0
  · have hkb : (k != 0) = false := by simpa using hk
    go_enter Try.func39, Try.ntmps39
    go_wp2_with fail
    refine (HC.out _).mono ?_
    rintro e w1 ⟨rfl, hb1⟩
    have S1 := S0.keep hb1
    clear c0 c1 c2
    obtain ⟨c0, c1, c2⟩ := (S1.blk 0 rfl).cell3
    by_cases h40 : 40 < W
    · have hd : decide (40 < W) = true := decide_eq_true h40
      have hr : r = 8 := by rw [hP.out, if_neg (by simpa using hk), if_pos h40]
      subst hr
      go_wp2_with fail
      go_ret
      exact ⟨rfl, S1.below⟩
    · have hd : decide (40 < W) = false := decide_eq_false h40
      have hr : r = 0 := by rw [hP.out, if_neg (by simpa using hk), if_neg h40]
      subst hr
      go_wp2_with fail
      go_ret
      exact ⟨rfl, S1.below⟩
  · have hkb : (k != 0) = true := by simpa using hk
    have hr : r = k := by rw [hP.out, if_pos hk]
    subst hr
    go_enter Try.func39, Try.ntmps39
    go_wp2_with fail
    refine (HC.out _).mono ?_
    rintro e w1 ⟨rfl, hb1⟩
    go_wp2_with fail
    go_ret
    exact ⟨rfl, (S0.keep hb1).below⟩
set_option maxHeartbeats 1000000 in
theorem rpcheck_any (W H : Int) (A : Option Addr) (n c : Nat) (w : World) :
    Calls Try.prog 41 #[.agg #[.int .i64 W, .int .i64 H, .slice A n c]] w fun e w' => e = .returned (.int .i64 (chkP W H n)) ∧ Below w.heap.size w w' := by
  have S0 := (St.start w).box #[.int .i64 W, .int .i64 H, .slice A n c] 25
  simp only [List.nil_append] at S0
  have HC := Lib.hid (fun w => rcheck_any W H A n c w)
  have hP := Lib.hid (show chkP W H n = if chk W H n ≠ 0 then chk W H n else if 40 < W then 8 else 0 from rfl)
  generalize chkP W H n = r at *
  generalize chk W H n = k at *
  obtain ⟨c0, c1, c2⟩ := (S0.blk 0 rfl).cell3
  by_cases hk : k = 0
  · have hkb : (k != 0) = false := by simpa using hk
    go_enter Try.func41, Try.ntmps41
    go_wp2_with fail
    refine (HC.out _).mono ?_
    rintro e w1 ⟨rfl, hb1⟩
    have S1 := S0.keep hb1
    clear c0 c1 c2
    obtain ⟨c0, c1, c2⟩ := (S1.blk 0 rfl).cell3
    by_cases h40 : 40 < W
    · have hd : decide (40 < W) = true := decide_eq_true h40
      have hr : r = 8 := by rw [hP.out, if_neg (by simpa using hk), if_pos h40]
      subst hr
      go_wp2_with fail
      go_ret
      exact ⟨rfl, S1.below⟩
    · have hd : decide (40 < W) = false := decide_eq_false h40
      have hr : r = 0 := by rw [hP.out, if_neg (by simpa using hk), if_neg h40]
      subst hr
      go_wp2_with fail
      go_ret
      exact ⟨rfl, S1.below⟩
  · have hkb : (k != 0) = true := by simpa using hk
    have hr : r = k := by rw [hP.out, if_pos hk]
    subst hr
    go_enter Try.func41, Try.ntmps41
    go_wp2_with fail
    refine (HC.out _).mono ?_
    rintro e w1 ⟨rfl, hb1⟩
    have S1 := S0.keep hb1
    clear c0 c1 c2
    obtain ⟨c0, c1, c2⟩ := (S1.blk 0 rfl).cell3
    go_wp2_with fail
    refine (HC.out _).mono ?_
    rintro e w2 ⟨rfl, hb2⟩
    go_wp2_with fail
    go_ret
    exact ⟨rfl, (S1.keep hb2).below⟩
end Go.Proofs.Ytfjdlbilnoojkaa
/- append of one event to a list of events that is the call's own. Nothing here names a function of the program. -/
namespace Go.Proofs.Ytfjdlbilnoojkaa
open Go.RowKit

theorem Try.infoEv : (Try.prog.info? 59).map (fun i => (i.zero, i.size, i.bytes)) = some (some (.agg #[.int .u8 0, .slice none 0 0]), 2, 32) := by kernel_rfl
theorem info_parts2 {i : Option TypeInfo} {z : Value} {s b : Nat} (h : i.map (fun i => (i.zero, i.size, i.bytes)) = some (some z, s, b)) : ∃ i0, i = some i0 ∧ i0.zero = some z ∧ i0.size = s ∧ i0.bytes = b := by
  cases i with
  | none => cases h
  | some i0 =>
    simp at h
    exact ⟨i0, rfl, h.1, h.2.1, h.2.2⟩
section
variable {P : Program}
theorem wpList_ev (w : World) {ops : Array Oper} {rest : List Oper} {o : Oper} {a : Act} {Q : Exit → Act → World → Prop} (hgd : o.guard = none) (s x : Operand) (t : TypeId)
    (ho : o.op = .call { callee := .builtin .append, args := #[s, x], argTypes := #[t, t] })
    (base tL tE : Nat) (i : TypeInfo) (z : Value) (ht : P.underlying t = some (.slice tL)) (hi : P.info? tL = some i) (hz : i.zero = some z)
    (hsize : i.size = 2) (hby : i.bytes = 32) (hzs : z.cells.size = 2) (hne : tL ≠ tE)
    (v : Value) (n : Nat) (l : List Ev) (hs : a.eval s = v) (hle : LE w base tL tE v n l)
    (b : Nat) (q : Int) (A' : Option Addr) (m c' : Nat) (r : List Bool) (hx : a.eval x = .slice (some ⟨b, 0, none⟩) 1 1) (hb : Blk w b tL #[.int .u8 q, .slice A' m c']) (hm : r.length = m) (hra : RowAt w base tE A' r)
    (hn : n + 1 ≤ 1048576) (hbase : base ≤ w.heap.size)
    (h : ∀ g cap w', LE w' base tL tE (.slice (some ⟨g, 0, none⟩) (n + 1) cap) (n + 1) (l ++ [(q, r)]) → w.grownBy w' v.ownBlock → (∀ g, v.ownBlock = some g → base ≤ g) → wpList P ops Q rest (a.put o.dst (.slice (some ⟨g, 0, none⟩) (n + 1) cap)) w') :
    wpList P ops Q (o :: rest) a w := by
  subst hm
  obtain ⟨xs, hown, happ⟩ := hle.open hne
  refine wpList_append_lies w hgd s x t ho base tL i z 2 32 ht hi hz hsize hby hzs (by omega) v n xs hs hown ⟨b, 0, none⟩ 1 1 [.int .u8 q, .slice A' r.length c'] hx rfl ?_ ?_ (by omega) (by unfold maxLen; omega) (by omega) hbase _ rfl ?_
  · intro j y hj
    exact World.news_of_block hb j y (by simpa using hj)
  · intro u hu
    simp at hu
    rcases hu with rfl | rfl <;> rfl
  · intro g cap w' h2 h3 _ _
    exact h g cap w' (happ w' _ q A' c' r hra h2 h3) h3 (fun g e => (hown.lt g e).1)
end
theorem chkP_zero {W H : Int} {n : Nat} (h : chkP W H n = 0) : ∃ a b : Nat, W = (a : Int) ∧ H = (b : Int) ∧ 1 ≤ a ∧ a ≤ 40 ∧ 1 ≤ b ∧ b ≤ 64 ∧ n = b * a := by
  unfold chkP at h
  split at h
  · rename_i h1; exact absurd h h1
  · rename_i h1
    split at h
    · simp at h
    · obtain ⟨a, b, h2, h3, h4, _, h5, h6, h7⟩ := chk_zero (show chk W H n = 0 by simpa using h1)
      exact ⟨a, b, h2, h3, h4, by omega, h5, h6, h7⟩
/-- What hands back a log and an error. -/
def RetE (r : List Ev × Int) (w : World) (e : Ending) (w' : World) : Prop :=
  ∃ A n c, e = .returned (.tuple #[.slice A n c, .int .i64 r.2]) ∧ LogR w' A n r.1 ∧ n ≤ c ∧ c ≤ maxLen ∧ Below w.heap.size w w'
theorem LogR.nil (w : World) (A : Option Addr) : LogR w A 0 [] := ⟨rfl, fun h => absurd h (by omega)⟩
theorem retE_bad {t : Int} {r : List Ev × Int} {w w' : World} (h : r = ([], t)) (hb : Below w.heap.size w w') : RetE r w (.returned (.tuple #[.slice none 0 0, .int .i64 t])) w' := by
  subst h
  exact ⟨none, 0, 0, rfl, LogR.nil _ _, Nat.le_refl _, Nat.zero_le _, hb⟩
end Go.Proofs.Ytfjdlbilnoojkaa
