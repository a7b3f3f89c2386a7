/- raddleref20.Twin: a copy of a log. -/
import Derived.Test.YtfjdlbilnoojkaaMg3z
import Derived.Test.YtfjdlbilnoojkaaRunPz
import Derived.Test.YtfjdlbilnoojkaaPicksz
import Derived.Test.YtfjdlbilnoojkaaInvROz
import Derived.Deep.Draws
namespace Go.Proofs.Ytfjdlbilnoojkaa
open Go.RowKit

theorem want_step2 {c : Prop} [Decidable c] {p q : Prop} (hc : c) (h : p) : if c then p else q := by rw [if_pos hc]; exact h
section
variable {P : Program}
theorem wp_ev (w : World) {o : Oper} {a : Act} {K : Act → World → Prop} {Q : Exit → Act → World → Prop} (s x : Operand) (t : TypeId)
    (ho : o.op = .call { callee := .builtin .append, args := #[s, x], argTypes := #[t, t] })
    (base tL tE : Nat) (i : TypeInfo) (z : Value) (ht : P.underlying t = some (.slice tL)) (hi : P.info? tL = some i) (hz : i.zero = some z)
    (hsize : i.size = 2) (hby : i.bytes = 32) (hzs : z.cells.size = 2) (hne : tL ≠ tE)
    (v : Value) (n : Nat) (l : List Ev) (hs : a.eval s = v) (hle : LE w base tL tE v n l)
    (b : Nat) (q : Int) (A' : Option Addr) (m c' : Nat) (r : List Bool) (hx : a.eval x = .slice (some ⟨b, 0, none⟩) 1 1) (hb : Blk w b tL #[.int .u8 q, .slice A' m c']) (hm : r.length = m) (hra : RowAt w base tE A' r)
    (hn : n + 1 ≤ 1048576) (hbase : base ≤ w.heap.size)
    (h : ∀ g cap w', LE w' base tL tE (.slice (some ⟨g, 0, none⟩) (n + 1) cap) (n + 1) (l ++ [(q, r)]) → w.grownBy w' v.ownBlock → (∀ g, v.ownBlock = some g → base ≤ g) → K (a.put o.dst (.slice (some ⟨g, 0, none⟩) (n + 1) cap)) w') :
    o.wp P a w K Q := by
  subst hm
  obtain ⟨xs, hown, happ⟩ := hle.open hne
  refine wp_append_lies w s x t ho base tL i z 2 32 ht hi hz hsize hby hzs (by omega) v n xs hs hown ⟨b, 0, none⟩ 1 1 [.int .u8 q, .slice A' r.length c'] hx rfl ?_ ?_ (by omega) (by unfold maxLen; omega) (by omega) hbase _ rfl ?_
  · intro j y hj
    exact World.news_of_block hb j y (by simpa using hj)
  · intro u hu
    simp at hu
    rcases hu with rfl | rfl <;> rfl
  · intro g cap w' h2 h3 _ _
    exact h g cap w' (happ w' _ q A' c' r hra h2 h3) h3 (fun g e => (hown.lt g e).1)
end
set_option linter.unusedVariables false in
def TW (w Wd : World) (b o n c k m cv : Nat) (q : Int) (Av : Option Addr) (ls : List Ev) (r : List Bool) : List Bool → List Value → World → Prop
  | [l0, l1, l2, l3, l4, l5, l6, l7, l8, l9, l10, l11, l12, l13, l14, l15, l16], [x0, x1, x2, x3, x4, x5, x6, x7, x8, x9, x10, x11, x12, x13, x14, x15, x16], u => ((l15 = false → Below Wd.heap.size Wd u) ∧ (l16 = false → x16 = .slice Av k cv)) ∧ (l0 = true → x0 = .slice Av k cv) ∧ (l1 = true → x1 = .slice (some ⟨b, o, none⟩) n c) ∧ (l2 = true → x2 = .int .i64 (k : Int)) ∧ (l3 = true → x3 = .pointer (some ⟨b, o + k * 2, none⟩)) ∧ (l4 = true → x4 = .pointer (some ⟨b, o + k * 2, none⟩)) ∧ (l5 = true → x5 = .int .u8 q) ∧ (l6 = true → l12 = false → ∃ g : Nat, x6 = .slice (some ⟨g, 0, none⟩) 0 0 ∧ u.ownsRow Wd.heap.size 4 1 (.slice (some ⟨g, 0, none⟩) 0 0) 0 []) ∧ (l7 = true → x7 = .slice (some ⟨b, o, none⟩) n c) ∧ (l8 = true → x8 = .int .i64 (k : Int)) ∧ (l9 = true → x9 = .pointer (some ⟨b, o + k * 2, none⟩)) ∧ (l10 = true → x10 = .pointer (some ⟨b, o + k * 2 + 1, none⟩)) ∧ (l11 = true → ∃ (As : Option Addr) (cs : Nat), x11 = .slice As m cs ∧ Rd Wd As m (r.map Value.bool)) ∧ (l12 = true → l13 = false → (l6 = true ∧ l11 = true) ∧ ∃ (A' : Option Addr) (c' : Nat), x12 = .slice A' m c' ∧ u.ownsRow Wd.heap.size 4 1 (.slice A' m c') m (r.map Value.bool)) ∧ (l13 = true → l14 = false → (l5 = true ∧ l6 = true ∧ l11 = true ∧ l12 = true) ∧ ∃ (A' : Option Addr) (c' : Nat), x13 = .agg #[.int .u8 q, .slice A' m c'] ∧ u.ownsRow Wd.heap.size 4 1 (.slice A' m c') m (r.map Value.bool)) ∧ (l14 = true → l15 = false → (l5 = true ∧ l6 = true ∧ l11 = true ∧ l12 = true ∧ l13 = true) ∧ ∃ (A' : Option Addr) (c' g : Nat), x14 = .slice (some ⟨g, 0, none⟩) 1 1 ∧ Blk u g 59 #[.int .u8 q, .slice A' m c'] ∧ u.ownsRow Wd.heap.size 4 1 (.slice A' m c') m (r.map Value.bool)) ∧ (l15 = true → (l5 = true ∧ l6 = true ∧ l11 = true ∧ l12 = true ∧ l14 = true) ∧ ∃ g' c' : Nat, x15 = .slice (some ⟨g', 0, none⟩) (k + 1) c' ∧ LE u w.heap.size 59 4 (.slice (some ⟨g', 0, none⟩) (k + 1) c') (k + 1) (ls ++ [(q, r)]) ∧ Below w.heap.size w u) ∧ (l16 = true → (l0 = true ∧ l15 = true) ∧ x16 = x15)
  | _, _, _ => False
theorem TW_get (w Wd : World) (b o n c k m cv : Nat) (q : Int) (Av : Option Addr) (ls : List Ev) (r : List Bool) {l0 l1 l2 l3 l4 l5 l6 l7 l8 l9 l10 l11 l12 l13 l14 l15 l16 : Bool} {x0 x1 x2 x3 x4 x5 x6 x7 x8 x9 x10 x11 x12 x13 x14 x15 x16 : Value} {u : World} (hyp : TW w Wd b o n c k m cv q Av ls r [l0, l1, l2, l3, l4, l5, l6, l7, l8, l9, l10, l11, l12, l13, l14, l15, l16] [x0, x1, x2, x3, x4, x5, x6, x7, x8, x9, x10, x11, x12, x13, x14, x15, x16] u) : ((l15 = false → Below Wd.heap.size Wd u) ∧ (l16 = false → x16 = .slice Av k cv)) ∧ (l0 = true → x0 = .slice Av k cv) ∧ (l1 = true → x1 = .slice (some ⟨b, o, none⟩) n c) ∧ (l2 = true → x2 = .int .i64 (k : Int)) ∧ (l3 = true → x3 = .pointer (some ⟨b, o + k * 2, none⟩)) ∧ (l4 = true → x4 = .pointer (some ⟨b, o + k * 2, none⟩)) ∧ (l5 = true → x5 = .int .u8 q) ∧ (l6 = true → l12 = false → ∃ g : Nat, x6 = .slice (some ⟨g, 0, none⟩) 0 0 ∧ u.ownsRow Wd.heap.size 4 1 (.slice (some ⟨g, 0, none⟩) 0 0) 0 []) ∧ (l7 = true → x7 = .slice (some ⟨b, o, none⟩) n c) ∧ (l8 = true → x8 = .int .i64 (k : Int)) ∧ (l9 = true → x9 = .pointer (some ⟨b, o + k * 2, none⟩)) ∧ (l10 = true → x10 = .pointer (some ⟨b, o + k * 2 + 1, none⟩)) ∧ (l11 = true → ∃ (As : Option Addr) (cs : Nat), x11 = .slice As m cs ∧ Rd Wd As m (r.map Value.bool)) ∧ (l12 = true → l13 = false → (l6 = true ∧ l11 = true) ∧ ∃ (A' : Option Addr) (c' : Nat), x12 = .slice A' m c' ∧ u.ownsRow Wd.heap.size 4 1 (.slice A' m c') m (r.map Value.bool)) ∧ (l13 = true → l14 = false → (l5 = true ∧ l6 = true ∧ l11 = true ∧ l12 = true) ∧ ∃ (A' : Option Addr) (c' : Nat), x13 = .agg #[.int .u8 q, .slice A' m c'] ∧ u.ownsRow Wd.heap.size 4 1 (.slice A' m c') m (r.map Value.bool)) ∧ (l14 = true → l15 = false → (l5 = true ∧ l6 = true ∧ l11 = true ∧ l12 = true ∧ l13 = true) ∧ ∃ (A' : Option Addr) (c' g : Nat), x14 = .slice (some ⟨g, 0, none⟩) 1 1 ∧ Blk u g 59 #[.int .u8 q, .slice A' m c'] ∧ u.ownsRow Wd.heap.size 4 1 (.slice A' m c') m (r.map Value.bool)) ∧ (l15 = true → (l5 = true ∧ l6 = true ∧ l11 = true ∧ l12 = true ∧ l14 = true) ∧ ∃ g' c' : Nat, x15 = .slice (some ⟨g', 0, none⟩) (k + 1) c' ∧ LE u w.heap.size 59 4 (.slice (some ⟨g', 0, none⟩) (k + 1) c') (k + 1) (ls ++ [(q, r)]) ∧ Below w.heap.size w u) ∧ (l16 = true → (l0 = true ∧ l15 = true) ∧ x16 = x15) := hyp
theorem TW_mk (w Wd : World) (b o n c k m cv : Nat) (q : Int) (Av : Option Addr) (ls : List Ev) (r : List Bool) {l0 l1 l2 l3 l4 l5 l6 l7 l8 l9 l10 l11 l12 l13 l14 l15 l16 : Bool} {x0 x1 x2 x3 x4 x5 x6 x7 x8 x9 x10 x11 x12 x13 x14 x15 x16 : Value} {u : World} (hyp : ((l15 = false → Below Wd.heap.size Wd u) ∧ (l16 = false → x16 = .slice Av k cv)) ∧ (l0 = true → x0 = .slice Av k cv) ∧ (l1 = true → x1 = .slice (some ⟨b, o, none⟩) n c) ∧ (l2 = true → x2 = .int .i64 (k : Int)) ∧ (l3 = true → x3 = .pointer (some ⟨b, o + k * 2, none⟩)) ∧ (l4 = true → x4 = .pointer (some ⟨b, o + k * 2, none⟩)) ∧ (l5 = true → x5 = .int .u8 q) ∧ (l6 = true → l12 = false → ∃ g : Nat, x6 = .slice (some ⟨g, 0, none⟩) 0 0 ∧ u.ownsRow Wd.heap.size 4 1 (.slice (some ⟨g, 0, none⟩) 0 0) 0 []) ∧ (l7 = true → x7 = .slice (some ⟨b, o, none⟩) n c) ∧ (l8 = true → x8 = .int .i64 (k : Int)) ∧ (l9 = true → x9 = .pointer (some ⟨b, o + k * 2, none⟩)) ∧ (l10 = true → x10 = .pointer (some ⟨b, o + k * 2 + 1, none⟩)) ∧ (l11 = true → ∃ (As : Option Addr) (cs : Nat), x11 = .slice As m cs ∧ Rd Wd As m (r.map Value.bool)) ∧ (l12 = true → l13 = false → (l6 = true ∧ l11 = true) ∧ ∃ (A' : Option Addr) (c' : Nat), x12 = .slice A' m c' ∧ u.ownsRow Wd.heap.size 4 1 (.slice A' m c') m (r.map Value.bool)) ∧ (l13 = true → l14 = false → (l5 = true ∧ l6 = true ∧ l11 = true ∧ l12 = true) ∧ ∃ (A' : Option Addr) (c' : Nat), x13 = .agg #[.int .u8 q, .slice A' m c'] ∧ u.ownsRow Wd.heap.size 4 1 (.slice A' m c') m (r.map Value.bool)) ∧ (l14 = true → l15 = false → (l5 = true ∧ l6 = true ∧ l11 = true ∧ l12 = true ∧ l13 = true) ∧ ∃ (A' : Option Addr) (c' g : Nat), x14 = .slice (some ⟨g, 0, none⟩) 1 1 ∧ Blk u g 59 #[.int .u8 q, .slice A' m c'] ∧ u.ownsRow Wd.heap.size 4 1 (.slice A' m c') m (r.map Value.bool)) ∧ (l15 = true → (l5 = true ∧ l6 = true ∧ l11 = true ∧ l12 = true ∧ l14 = true) ∧ ∃ g' c' : Nat, x15 = .slice (some ⟨g', 0, none⟩) (k + 1) c' ∧ LE u w.heap.size 59 4 (.slice (some ⟨g', 0, none⟩) (k + 1) c') (k + 1) (ls ++ [(q, r)]) ∧ Below w.heap.size w u) ∧ (l16 = true → (l0 = true ∧ l15 = true) ∧ x16 = x15)) : TW w Wd b o n c k m cv q Av ls r [l0, l1, l2, l3, l4, l5, l6, l7, l8, l9, l10, l11, l12, l13, l14, l15, l16] [x0, x1, x2, x3, x4, x5, x6, x7, x8, x9, x10, x11, x12, x13, x14, x15, x16] u := hyp
theorem TW_b : ∀ l : List Bool, l.length = 17 → ∃ a0 a1 a2 a3 a4 a5 a6 a7 a8 a9 a10 a11 a12 a13 a14 a15 a16, l = [a0, a1, a2, a3, a4, a5, a6, a7, a8, a9, a10, a11, a12, a13, a14, a15, a16]
  | [a0, a1, a2, a3, a4, a5, a6, a7, a8, a9, a10, a11, a12, a13, a14, a15, a16], _ => ⟨a0, a1, a2, a3, a4, a5, a6, a7, a8, a9, a10, a11, a12, a13, a14, a15, a16, rfl⟩
theorem TW_v : ∀ l : List Value, l.length = 17 → ∃ a0 a1 a2 a3 a4 a5 a6 a7 a8 a9 a10 a11 a12 a13 a14 a15 a16, l = [a0, a1, a2, a3, a4, a5, a6, a7, a8, a9, a10, a11, a12, a13, a14, a15, a16]
  | [a0, a1, a2, a3, a4, a5, a6, a7, a8, a9, a10, a11, a12, a13, a14, a15, a16], _ => ⟨a0, a1, a2, a3, a4, a5, a6, a7, a8, a9, a10, a11, a12, a13, a14, a15, a16, rfl⟩
set_option linter.unusedVariables false in
set_option maxHeartbeats 6000000 in
set_option maxRecDepth 100000 in
theorem twin20_any (lg : List Ev) (A : Option Addr) (n c : Nat) (w : World) (hr : LogR w A n lg) (hn : n ≤ 1000) (hm1 : ∀ e ∈ lg, e.2.length ≤ 1000) :
    Calls Try.prog 12 #[.slice A n c] w fun e w' => ∃ A' c', e = .returned (.slice A' n c') ∧ LE w' w.heap.size 59 4 (.slice A' n c') n lg ∧ Below w.heap.size w w' := by
  obtain ⟨i0, hi0, hz0, hz1, hz2⟩ := info_parts Try.infoB
  obtain ⟨i1, hi1, hy0, hy1, hy2⟩ := info_parts2 Try.infoEv
  have HL := Lib.hid hr.len
  go_enter Try.func12, Try.ntmps12
  go_wp2_with fail
  go_loopw [4, 3] (fun i u wr => ∃ (k cv : Nat) (Av : Option Addr), k ≤ n ∧ i = .int .i64 k ∧ u = .slice Av k cv ∧ LE wr w.heap.size 59 4 (.slice Av k cv) k (lg.take k) ∧ Below w.heap.size w wr) (fun i _ _ => n - (intOf i).toNat)
  case atStart => exact ⟨0, 0, none, Nat.zero_le _, rfl, rfl, LE.nil _ _ _ _, Below.refl _ _⟩
  case round =>
    obtain ⟨k, cv, Av, hk, rfl, rfl, hle, hbel⟩ := hrel
    by_cases hlt : k < n
    · obtain ⟨b, o, q, r, As, cs, hA, hb, hi, _, _, _⟩ := (hr.below hbel).at_ hlt
      subst hA
      have HI := Lib.hid hi
      have hm2 : r.length ≤ 1000 := hm1 _ (List.mem_of_getElem? hi)
      have hr2 := hr.below hbel
      obtain ⟨m, hrm⟩ : ∃ m, r.length = m := ⟨_, rfl⟩
      have hm3 : m ≤ 1000 := by omega
      have HCELL := Lib.hid (fun u (hu : Below wr.drew.heap.size wr.drew u) => show u.cell? ⟨b, o + k * 2, none⟩ = some (.int .u8 q) ∧ ∃ (As : Option Addr) (cs : Nat), u.cell? ⟨b, o + k * 2 + 1, none⟩ = some (.slice As m cs) ∧ Rd wr.drew As m (r.map Value.bool) from by
        obtain ⟨h1, As, cs, h2, h3⟩ := hr2.lit hi
        rw [hrm] at h2 h3
        exact ⟨(hu.cell (p := ⟨b, o + k * 2, none⟩) hb).trans h1, As, cs, (hu.cell (p := ⟨b, o + k * 2 + 1, none⟩) hb).trans h2, h3⟩)
      have HRM := Lib.hid hrm
      clear hi hm2
      go_wp2_with fail
      refine wp_region_invO 17 [some 11, some 12, some 13, some 14, some 15, some 16, some 17, some 18, some 19, some 20, some 21, some 22, some 23, some 24, some 25, some 26, some 3] (TW w wr.drew b o n c k m cv q Av (lg.take k) r) (by kernel_rfl) rfl rfl (by decide) (by kernel_rfl) ?_ (fun i hi => ?_) (fun xs wf hx hG => ?_)
      · show TW w wr.drew b o n c k m cv q Av (lg.take k) r [false, false, false, false, false, false, false, false, false, false, false, false, false, false, false, false, false] [_, _, _, _, _, _, _, _, _, _, _, _, _, _, _, _, _] _
        refine TW_mk w wr.drew b o n c k m cv q Av (lg.take k) r ?_
        exact ⟨⟨fun _ => Below.refl _ _, fun _ => rfl⟩, (fun g1 => by cases g1), (fun g1 => by cases g1), (fun g1 => by cases g1), (fun g1 => by cases g1), (fun g1 => by cases g1), (fun g1 => by cases g1), (fun g1 => by cases g1), (fun g1 => by cases g1), (fun g1 => by cases g1), (fun g1 => by cases g1), (fun g1 => by cases g1), (fun g1 => by cases g1), (fun g1 => by cases g1), (fun g1 => by cases g1), (fun g1 => by cases g1), (fun g1 => by cases g1), (fun g1 => by cases g1)⟩
      · match i, hi with
        | 0, _ =>
          intro o ho l xs w1 hl hx hG hi hdep K hK
          obtain rfl := Option.some.inj (ho.symm.trans rfl)
          clear ho
          obtain ⟨l0, l1, l2, l3, l4, l5, l6, l7, l8, l9, l10, l11, l12, l13, l14, l15, l16, rfl⟩ := TW_b l hl
          obtain ⟨x0, x1, x2, x3, x4, x5, x6, x7, x8, x9, x10, x11, x12, x13, x14, x15, x16, rfl⟩ := TW_v xs hx
          obtain rfl : l0 = false := hi
          clear hdep hl hx
          dsimp only [setAll, List.set_cons_zero, List.set_cons_succ] at hK ⊢
          have hf := TW_get w wr.drew b o n c k m cv q Av (lg.take k) r hG
          have hl16 : l16 = false := by
            cases l16 with
            | false => rfl
            | true => exact absurd (hf.2.2.2.2.2.2.2.2.2.2.2.2.2.2.2.2.2 rfl).1.1 (by decide)
          subst hl16
          have hF5 := hf.1.2 rfl
          clear hf
          subst hF5
          go_simp
          refine hK.out _ _ ?_
          clear hK K
          have hC := TW_get w wr.drew b o n c k m cv q Av (lg.take k) r hG
          cases hC
          rename_i SD ez1
          cases ez1
          rename_i h0 ez2
          cases ez2
          rename_i h1 ez3
          cases ez3
          rename_i h2 ez4
          cases ez4
          rename_i h3 ez5
          cases ez5
          rename_i h4 ez6
          cases ez6
          rename_i h5 ez7
          cases ez7
          rename_i h6 ez8
          cases ez8
          rename_i h7 ez9
          cases ez9
          rename_i h8 ez10
          cases ez10
          rename_i h9 ez11
          cases ez11
          rename_i h10 ez12
          cases ez12
          rename_i h11 ez13
          cases ez13
          rename_i h12 ez14
          cases ez14
          rename_i h13 ez15
          cases ez15
          rename_i h14 ez16
          cases ez16
          rename_i h15 h16
          refine TW_mk w wr.drew b o n c k m cv q Av (lg.take k) r ?_
          exact ⟨SD, (fun g1 => rfl), h1, h2, h3, h4, h5, h6, h7, h8, h9, h10, h11, h12, h13, h14, h15, (fun g1 => by obtain ⟨⟨f0, f15⟩, e⟩ := h16 g1; cases f0)⟩
        | 1, _ =>
          intro o ho l xs w1 hl hx hG hi hdep K hK
          obtain rfl := Option.some.inj (ho.symm.trans rfl)
          clear ho
          obtain ⟨l0, l1, l2, l3, l4, l5, l6, l7, l8, l9, l10, l11, l12, l13, l14, l15, l16, rfl⟩ := TW_b l hl
          obtain ⟨x0, x1, x2, x3, x4, x5, x6, x7, x8, x9, x10, x11, x12, x13, x14, x15, x16, rfl⟩ := TW_v xs hx
          obtain rfl : l1 = false := hi
          clear hdep hl hx
          dsimp only [setAll, List.set_cons_zero, List.set_cons_succ] at hK ⊢
          go_simp
          refine hK.out _ _ ?_
          clear hK K
          have hC := TW_get w wr.drew b o n c k m cv q Av (lg.take k) r hG
          cases hC
          rename_i SD ez17
          cases ez17
          rename_i h0 ez18
          cases ez18
          rename_i h1 ez19
          cases ez19
          rename_i h2 ez20
          cases ez20
          rename_i h3 ez21
          cases ez21
          rename_i h4 ez22
          cases ez22
          rename_i h5 ez23
          cases ez23
          rename_i h6 ez24
          cases ez24
          rename_i h7 ez25
          cases ez25
          rename_i h8 ez26
          cases ez26
          rename_i h9 ez27
          cases ez27
          rename_i h10 ez28
          cases ez28
          rename_i h11 ez29
          cases ez29
          rename_i h12 ez30
          cases ez30
          rename_i h13 ez31
          cases ez31
          rename_i h14 ez32
          cases ez32
          rename_i h15 h16
          refine TW_mk w wr.drew b o n c k m cv q Av (lg.take k) r ?_
          exact ⟨SD, h0, (fun g1 => rfl), h2, h3, h4, h5, h6, h7, h8, h9, h10, h11, h12, h13, h14, h15, h16⟩
        | 2, _ =>
          intro o ho l xs w1 hl hx hG hi hdep K hK
          obtain rfl := Option.some.inj (ho.symm.trans rfl)
          clear ho
          obtain ⟨l0, l1, l2, l3, l4, l5, l6, l7, l8, l9, l10, l11, l12, l13, l14, l15, l16, rfl⟩ := TW_b l hl
          obtain ⟨x0, x1, x2, x3, x4, x5, x6, x7, x8, x9, x10, x11, x12, x13, x14, x15, x16, rfl⟩ := TW_v xs hx
          obtain rfl : l2 = false := hi
          clear hdep hl hx
          dsimp only [setAll, List.set_cons_zero, List.set_cons_succ] at hK ⊢
          go_simp
          refine hK.out _ _ ?_
          clear hK K
          have hC := TW_get w wr.drew b o n c k m cv q Av (lg.take k) r hG
          cases hC
          rename_i SD ez33
          cases ez33
          rename_i h0 ez34
          cases ez34
          rename_i h1 ez35
          cases ez35
          rename_i h2 ez36
          cases ez36
          rename_i h3 ez37
          cases ez37
          rename_i h4 ez38
          cases ez38
          rename_i h5 ez39
          cases ez39
          rename_i h6 ez40
          cases ez40
          rename_i h7 ez41
          cases ez41
          rename_i h8 ez42
          cases ez42
          rename_i h9 ez43
          cases ez43
          rename_i h10 ez44
          cases ez44
          rename_i h11 ez45
          cases ez45
          rename_i h12 ez46
          cases ez46
          rename_i h13 ez47
          cases ez47
          rename_i h14 ez48
          cases ez48
          rename_i h15 h16
          refine TW_mk w wr.drew b o n c k m cv q Av (lg.take k) r ?_
          exact ⟨SD, h0, h1, (fun g1 => rfl), h3, h4, h5, h6, h7, h8, h9, h10, h11, h12, h13, h14, h15, h16⟩
        | 3, _ =>
          intro o ho l xs w1 hl hx hG hi hdep K hK
          obtain rfl := Option.some.inj (ho.symm.trans rfl)
          clear ho
          obtain ⟨l0, l1, l2, l3, l4, l5, l6, l7, l8, l9, l10, l11, l12, l13, l14, l15, l16, rfl⟩ := TW_b l hl
          obtain ⟨x0, x1, x2, x3, x4, x5, x6, x7, x8, x9, x10, x11, x12, x13, x14, x15, x16, rfl⟩ := TW_v xs hx
          obtain rfl : l3 = false := hi
          obtain rfl : l1 = true := hdep 1 (by kernel_rfl)
          obtain rfl : l2 = true := hdep 2 (by kernel_rfl)
          clear hdep hl hx
          dsimp only [setAll, List.set_cons_zero, List.set_cons_succ] at hK ⊢
          have hf := TW_get w wr.drew b o n c k m cv q Av (lg.take k) r hG
          have hF0 := (hf.2.2.1 rfl)
          have hF1 := (hf.2.2.2.1 rfl)
          clear hf
          subst hF0
          subst hF1
          go_simp
          refine hK.out _ _ ?_
          clear hK K
          have hC := TW_get w wr.drew b o n c k m cv q Av (lg.take k) r hG
          cases hC
          rename_i SD ez49
          cases ez49
          rename_i h0 ez50
          cases ez50
          rename_i h1 ez51
          cases ez51
          rename_i h2 ez52
          cases ez52
          rename_i h3 ez53
          cases ez53
          rename_i h4 ez54
          cases ez54
          rename_i h5 ez55
          cases ez55
          rename_i h6 ez56
          cases ez56
          rename_i h7 ez57
          cases ez57
          rename_i h8 ez58
          cases ez58
          rename_i h9 ez59
          cases ez59
          rename_i h10 ez60
          cases ez60
          rename_i h11 ez61
          cases ez61
          rename_i h12 ez62
          cases ez62
          rename_i h13 ez63
          cases ez63
          rename_i h14 ez64
          cases ez64
          rename_i h15 h16
          refine TW_mk w wr.drew b o n c k m cv q Av (lg.take k) r ?_
          exact ⟨SD, h0, h1, h2, (fun g1 => rfl), h4, h5, h6, h7, h8, h9, h10, h11, h12, h13, h14, h15, h16⟩
        | 4, _ =>
          intro o ho l xs w1 hl hx hG hi hdep K hK
          obtain rfl := Option.some.inj (ho.symm.trans rfl)
          clear ho
          obtain ⟨l0, l1, l2, l3, l4, l5, l6, l7, l8, l9, l10, l11, l12, l13, l14, l15, l16, rfl⟩ := TW_b l hl
          obtain ⟨x0, x1, x2, x3, x4, x5, x6, x7, x8, x9, x10, x11, x12, x13, x14, x15, x16, rfl⟩ := TW_v xs hx
          obtain rfl : l4 = false := hi
          obtain rfl : l3 = true := hdep 3 (by kernel_rfl)
          clear hdep hl hx
          dsimp only [setAll, List.set_cons_zero, List.set_cons_succ] at hK ⊢
          have hf := TW_get w wr.drew b o n c k m cv q Av (lg.take k) r hG
          have hF0 := (hf.2.2.2.2.1 rfl)
          clear hf
          subst hF0
          go_simp
          refine hK.out _ _ ?_
          clear hK K
          have hC := TW_get w wr.drew b o n c k m cv q Av (lg.take k) r hG
          cases hC
          rename_i SD ez65
          cases ez65
          rename_i h0 ez66
          cases ez66
          rename_i h1 ez67
          cases ez67
          rename_i h2 ez68
          cases ez68
          rename_i h3 ez69
          cases ez69
          rename_i h4 ez70
          cases ez70
          rename_i h5 ez71
          cases ez71
          rename_i h6 ez72
          cases ez72
          rename_i h7 ez73
          cases ez73
          rename_i h8 ez74
          cases ez74
          rename_i h9 ez75
          cases ez75
          rename_i h10 ez76
          cases ez76
          rename_i h11 ez77
          cases ez77
          rename_i h12 ez78
          cases ez78
          rename_i h13 ez79
          cases ez79
          rename_i h14 ez80
          cases ez80
          rename_i h15 h16
          refine TW_mk w wr.drew b o n c k m cv q Av (lg.take k) r ?_
          exact ⟨SD, h0, h1, h2, h3, (fun g1 => rfl), h5, h6, h7, h8, h9, h10, h11, h12, h13, h14, h15, h16⟩
        | 5, _ =>
          intro o ho l xs w1 hl hx hG hi hdep K hK
          obtain rfl := Option.some.inj (ho.symm.trans rfl)
          clear ho
          obtain ⟨l0, l1, l2, l3, l4, l5, l6, l7, l8, l9, l10, l11, l12, l13, l14, l15, l16, rfl⟩ := TW_b l hl
          obtain ⟨x0, x1, x2, x3, x4, x5, x6, x7, x8, x9, x10, x11, x12, x13, x14, x15, x16, rfl⟩ := TW_v xs hx
          obtain rfl : l5 = false := hi
          obtain rfl : l4 = true := hdep 4 (by kernel_rfl)
          clear hdep hl hx
          dsimp only [setAll, List.set_cons_zero, List.set_cons_succ] at hK ⊢
          have hf := TW_get w wr.drew b o n c k m cv q Av (lg.take k) r hG
          have hl15 : l15 = false := by
            cases l15 with
            | false => rfl
            | true => exact absurd (hf.2.2.2.2.2.2.2.2.2.2.2.2.2.2.2.2.1 rfl).1.1 (by decide)
          subst hl15
          have hbw := hf.1.1 rfl
          have hF6 := (hf.2.2.2.2.2.1 rfl)
          clear hf
          have hE81 := HCELL.out _ hbw
          cases hE81
          rename_i g0 _
          subst hF6
          go_simp
          refine hK.out _ _ ?_
          clear hK K
          have hC := TW_get w wr.drew b o n c k m cv q Av (lg.take k) r hG
          cases hC
          rename_i SD ez82
          cases ez82
          rename_i h0 ez83
          cases ez83
          rename_i h1 ez84
          cases ez84
          rename_i h2 ez85
          cases ez85
          rename_i h3 ez86
          cases ez86
          rename_i h4 ez87
          cases ez87
          rename_i h5 ez88
          cases ez88
          rename_i h6 ez89
          cases ez89
          rename_i h7 ez90
          cases ez90
          rename_i h8 ez91
          cases ez91
          rename_i h9 ez92
          cases ez92
          rename_i h10 ez93
          cases ez93
          rename_i h11 ez94
          cases ez94
          rename_i h12 ez95
          cases ez95
          rename_i h13 ez96
          cases ez96
          rename_i h14 ez97
          cases ez97
          rename_i h15 h16
          refine TW_mk w wr.drew b o n c k m cv q Av (lg.take k) r ?_
          exact ⟨SD, h0, h1, h2, h3, h4, (fun g1 => rfl), h6, h7, h8, h9, h10, h11, h12, (fun g1 g2 => by obtain ⟨⟨f5, f6, f11, f12⟩, A', c', e, r13⟩ := h13 g1 g2; cases f5), (fun g1 g2 => by obtain ⟨⟨f5, f6, f11, f12, f13⟩, A', c', g, e, b14, r14⟩ := h14 g1 g2; cases f5), (fun g1 => by obtain ⟨⟨f5, f6, f11, f12, f14⟩, g', c', e, le, bl⟩ := h15 g1; cases f5), h16⟩
        | 6, _ =>
          intro o ho l xs w1 hl hx hG hi hdep K hK
          obtain rfl := Option.some.inj (ho.symm.trans rfl)
          clear ho
          obtain ⟨l0, l1, l2, l3, l4, l5, l6, l7, l8, l9, l10, l11, l12, l13, l14, l15, l16, rfl⟩ := TW_b l hl
          obtain ⟨x0, x1, x2, x3, x4, x5, x6, x7, x8, x9, x10, x11, x12, x13, x14, x15, x16, rfl⟩ := TW_v xs hx
          obtain rfl : l6 = false := hi
          clear hdep hl hx
          dsimp only [setAll, List.set_cons_zero, List.set_cons_succ] at hK ⊢
          have hf := TW_get w wr.drew b o n c k m cv q Av (lg.take k) r hG
          have hl15 : l15 = false := by
            cases l15 with
            | false => rfl
            | true => exact absurd (hf.2.2.2.2.2.2.2.2.2.2.2.2.2.2.2.2.1 rfl).1.2.1 (by decide)
          subst hl15
          have hbw := hf.1.1 rfl
          clear hf
          go_simp
          refine hK.out _ _ ?_
          clear hK K
          have hC := TW_get w wr.drew b o n c k m cv q Av (lg.take k) r hG
          cases hC
          rename_i SD ez98
          cases ez98
          rename_i h0 ez99
          cases ez99
          rename_i h1 ez100
          cases ez100
          rename_i h2 ez101
          cases ez101
          rename_i h3 ez102
          cases ez102
          rename_i h4 ez103
          cases ez103
          rename_i h5 ez104
          cases ez104
          rename_i h6 ez105
          cases ez105
          rename_i h7 ez106
          cases ez106
          rename_i h8 ez107
          cases ez107
          rename_i h9 ez108
          cases ez108
          rename_i h10 ez109
          cases ez109
          rename_i h11 ez110
          cases ez110
          rename_i h12 ez111
          cases ez111
          rename_i h13 ez112
          cases ez112
          rename_i h14 ez113
          cases ez113
          rename_i h15 h16
          have hb := fun ob => (Below.refl w1.heap.size w1).alloc (Nat.le_refl _) ob
          refine TW_mk w wr.drew b o n c k m cv q Av (lg.take k) r ?_
          exact ⟨⟨fun g => below_then (SD.1 g) (hb _), SD.2⟩, (fun g1 => by obtain e := h0 g1; exact e), (fun g1 => by obtain e := h1 g1; exact e), (fun g1 => by obtain e := h2 g1; exact e), (fun g1 => by obtain e := h3 g1; exact e), (fun g1 => by obtain e := h4 g1; exact e), (fun g1 => by obtain e := h5 g1; exact e), (fun g1 g2 => ⟨_, rfl, own_of_blk (cs := #[]) (Blk.new _ _ _) hbw.size (by simp)⟩), (fun g1 => by obtain e := h7 g1; exact e), (fun g1 => by obtain e := h8 g1; exact e), (fun g1 => by obtain e := h9 g1; exact e), (fun g1 => by obtain e := h10 g1; exact e), (fun g1 => by obtain ⟨As, cs, e, hrs⟩ := h11 g1; exact ⟨As, cs, e, hrs⟩), (fun g1 g2 => by obtain ⟨⟨f6, f11⟩, A', c', e, r12⟩ := h12 g1 g2; cases f6), (fun g1 g2 => by obtain ⟨⟨f5, f6, f11, f12⟩, A', c', e, r13⟩ := h13 g1 g2; cases f6), (fun g1 g2 => by obtain ⟨⟨f5, f6, f11, f12, f13⟩, A', c', g, e, b14, r14⟩ := h14 g1 g2; cases f6), (fun g1 => by obtain ⟨⟨f5, f6, f11, f12, f14⟩, g', c', e, le, bl⟩ := h15 g1; cases f6), (fun g1 => by obtain ⟨⟨f0, f15⟩, e⟩ := h16 g1; exact ⟨⟨f0, f15⟩, e⟩)⟩
        | 7, _ =>
          intro o ho l xs w1 hl hx hG hi hdep K hK
          obtain rfl := Option.some.inj (ho.symm.trans rfl)
          clear ho
          obtain ⟨l0, l1, l2, l3, l4, l5, l6, l7, l8, l9, l10, l11, l12, l13, l14, l15, l16, rfl⟩ := TW_b l hl
          obtain ⟨x0, x1, x2, x3, x4, x5, x6, x7, x8, x9, x10, x11, x12, x13, x14, x15, x16, rfl⟩ := TW_v xs hx
          obtain rfl : l7 = false := hi
          clear hdep hl hx
          dsimp only [setAll, List.set_cons_zero, List.set_cons_succ] at hK ⊢
          go_simp
          refine hK.out _ _ ?_
          clear hK K
          have hC := TW_get w wr.drew b o n c k m cv q Av (lg.take k) r hG
          cases hC
          rename_i SD ez114
          cases ez114
          rename_i h0 ez115
          cases ez115
          rename_i h1 ez116
          cases ez116
          rename_i h2 ez117
          cases ez117
          rename_i h3 ez118
          cases ez118
          rename_i h4 ez119
          cases ez119
          rename_i h5 ez120
          cases ez120
          rename_i h6 ez121
          cases ez121
          rename_i h7 ez122
          cases ez122
          rename_i h8 ez123
          cases ez123
          rename_i h9 ez124
          cases ez124
          rename_i h10 ez125
          cases ez125
          rename_i h11 ez126
          cases ez126
          rename_i h12 ez127
          cases ez127
          rename_i h13 ez128
          cases ez128
          rename_i h14 ez129
          cases ez129
          rename_i h15 h16
          refine TW_mk w wr.drew b o n c k m cv q Av (lg.take k) r ?_
          exact ⟨SD, h0, h1, h2, h3, h4, h5, h6, (fun g1 => rfl), h8, h9, h10, h11, h12, h13, h14, h15, h16⟩
        | 8, _ =>
          intro o ho l xs w1 hl hx hG hi hdep K hK
          obtain rfl := Option.some.inj (ho.symm.trans rfl)
          clear ho
          obtain ⟨l0, l1, l2, l3, l4, l5, l6, l7, l8, l9, l10, l11, l12, l13, l14, l15, l16, rfl⟩ := TW_b l hl
          obtain ⟨x0, x1, x2, x3, x4, x5, x6, x7, x8, x9, x10, x11, x12, x13, x14, x15, x16, rfl⟩ := TW_v xs hx
          obtain rfl : l8 = false := hi
          clear hdep hl hx
          dsimp only [setAll, List.set_cons_zero, List.set_cons_succ] at hK ⊢
          go_simp
          refine hK.out _ _ ?_
          clear hK K
          have hC := TW_get w wr.drew b o n c k m cv q Av (lg.take k) r hG
          cases hC
          rename_i SD ez130
          cases ez130
          rename_i h0 ez131
          cases ez131
          rename_i h1 ez132
          cases ez132
          rename_i h2 ez133
          cases ez133
          rename_i h3 ez134
          cases ez134
          rename_i h4 ez135
          cases ez135
          rename_i h5 ez136
          cases ez136
          rename_i h6 ez137
          cases ez137
          rename_i h7 ez138
          cases ez138
          rename_i h8 ez139
          cases ez139
          rename_i h9 ez140
          cases ez140
          rename_i h10 ez141
          cases ez141
          rename_i h11 ez142
          cases ez142
          rename_i h12 ez143
          cases ez143
          rename_i h13 ez144
          cases ez144
          rename_i h14 ez145
          cases ez145
          rename_i h15 h16
          refine TW_mk w wr.drew b o n c k m cv q Av (lg.take k) r ?_
          exact ⟨SD, h0, h1, h2, h3, h4, h5, h6, h7, (fun g1 => rfl), h9, h10, h11, h12, h13, h14, h15, h16⟩
        | 9, _ =>
          intro o ho l xs w1 hl hx hG hi hdep K hK
          obtain rfl := Option.some.inj (ho.symm.trans rfl)
          clear ho
          obtain ⟨l0, l1, l2, l3, l4, l5, l6, l7, l8, l9, l10, l11, l12, l13, l14, l15, l16, rfl⟩ := TW_b l hl
          obtain ⟨x0, x1, x2, x3, x4, x5, x6, x7, x8, x9, x10, x11, x12, x13, x14, x15, x16, rfl⟩ := TW_v xs hx
          obtain rfl : l9 = false := hi
          obtain rfl : l7 = true := hdep 7 (by kernel_rfl)
          obtain rfl : l8 = true := hdep 8 (by kernel_rfl)
          clear hdep hl hx
          dsimp only [setAll, List.set_cons_zero, List.set_cons_succ] at hK ⊢
          have hf := TW_get w wr.drew b o n c k m cv q Av (lg.take k) r hG
          have hF0 := (hf.2.2.2.2.2.2.2.2.1 rfl)
          have hF1 := (hf.2.2.2.2.2.2.2.2.2.1 rfl)
          clear hf
          subst hF0
          subst hF1
          go_simp
          refine hK.out _ _ ?_
          clear hK K
          have hC := TW_get w wr.drew b o n c k m cv q Av (lg.take k) r hG
          cases hC
          rename_i SD ez146
          cases ez146
          rename_i h0 ez147
          cases ez147
          rename_i h1 ez148
          cases ez148
          rename_i h2 ez149
          cases ez149
          rename_i h3 ez150
          cases ez150
          rename_i h4 ez151
          cases ez151
          rename_i h5 ez152
          cases ez152
          rename_i h6 ez153
          cases ez153
          rename_i h7 ez154
          cases ez154
          rename_i h8 ez155
          cases ez155
          rename_i h9 ez156
          cases ez156
          rename_i h10 ez157
          cases ez157
          rename_i h11 ez158
          cases ez158
          rename_i h12 ez159
          cases ez159
          rename_i h13 ez160
          cases ez160
          rename_i h14 ez161
          cases ez161
          rename_i h15 h16
          refine TW_mk w wr.drew b o n c k m cv q Av (lg.take k) r ?_
          exact ⟨SD, h0, h1, h2, h3, h4, h5, h6, h7, h8, (fun g1 => rfl), h10, h11, h12, h13, h14, h15, h16⟩
        | 10, _ =>
          intro o ho l xs w1 hl hx hG hi hdep K hK
          obtain rfl := Option.some.inj (ho.symm.trans rfl)
          clear ho
          obtain ⟨l0, l1, l2, l3, l4, l5, l6, l7, l8, l9, l10, l11, l12, l13, l14, l15, l16, rfl⟩ := TW_b l hl
          obtain ⟨x0, x1, x2, x3, x4, x5, x6, x7, x8, x9, x10, x11, x12, x13, x14, x15, x16, rfl⟩ := TW_v xs hx
          obtain rfl : l10 = false := hi
          obtain rfl : l9 = true := hdep 9 (by kernel_rfl)
          clear hdep hl hx
          dsimp only [setAll, List.set_cons_zero, List.set_cons_succ] at hK ⊢
          have hf := TW_get w wr.drew b o n c k m cv q Av (lg.take k) r hG
          have hF0 := (hf.2.2.2.2.2.2.2.2.2.2.1 rfl)
          clear hf
          subst hF0
          go_simp
          refine hK.out _ _ ?_
          clear hK K
          have hC := TW_get w wr.drew b o n c k m cv q Av (lg.take k) r hG
          cases hC
          rename_i SD ez162
          cases ez162
          rename_i h0 ez163
          cases ez163
          rename_i h1 ez164
          cases ez164
          rename_i h2 ez165
          cases ez165
          rename_i h3 ez166
          cases ez166
          rename_i h4 ez167
          cases ez167
          rename_i h5 ez168
          cases ez168
          rename_i h6 ez169
          cases ez169
          rename_i h7 ez170
          cases ez170
          rename_i h8 ez171
          cases ez171
          rename_i h9 ez172
          cases ez172
          rename_i h10 ez173
          cases ez173
          rename_i h11 ez174
          cases ez174
          rename_i h12 ez175
          cases ez175
          rename_i h13 ez176
          cases ez176
          rename_i h14 ez177
          cases ez177
          rename_i h15 h16
          refine TW_mk w wr.drew b o n c k m cv q Av (lg.take k) r ?_
          exact ⟨SD, h0, h1, h2, h3, h4, h5, h6, h7, h8, h9, (fun g1 => rfl), h11, h12, h13, h14, h15, h16⟩
        | 11, _ =>
          intro o ho l xs w1 hl hx hG hi hdep K hK
          obtain rfl := Option.some.inj (ho.symm.trans rfl)
          clear ho
          obtain ⟨l0, l1, l2, l3, l4, l5, l6, l7, l8, l9, l10, l11, l12, l13, l14, l15, l16, rfl⟩ := TW_b l hl
          obtain ⟨x0, x1, x2, x3, x4, x5, x6, x7, x8, x9, x10, x11, x12, x13, x14, x15, x16, rfl⟩ := TW_v xs hx
          obtain rfl : l11 = false := hi
          obtain rfl : l10 = true := hdep 10 (by kernel_rfl)
          clear hdep hl hx
          dsimp only [setAll, List.set_cons_zero, List.set_cons_succ] at hK ⊢
          have hf := TW_get w wr.drew b o n c k m cv q Av (lg.take k) r hG
          have hl15 : l15 = false := by
            cases l15 with
            | false => rfl
            | true => exact absurd (hf.2.2.2.2.2.2.2.2.2.2.2.2.2.2.2.2.1 rfl).1.2.2.1 (by decide)
          subst hl15
          have hbw := hf.1.1 rfl
          have hF6 := (hf.2.2.2.2.2.2.2.2.2.2.2.1 rfl)
          clear hf
          have hE178 := HCELL.out _ hbw
          cases hE178
          rename_i _ ez179
          cases ez179
          rename_i As ez180
          cases ez180
          rename_i cs ez181
          cases ez181
          rename_i g1 hrs
          subst hF6
          go_simp
          refine hK.out _ _ ?_
          clear hK K
          have hC := TW_get w wr.drew b o n c k m cv q Av (lg.take k) r hG
          cases hC
          rename_i SD ez182
          cases ez182
          rename_i h0 ez183
          cases ez183
          rename_i h1 ez184
          cases ez184
          rename_i h2 ez185
          cases ez185
          rename_i h3 ez186
          cases ez186
          rename_i h4 ez187
          cases ez187
          rename_i h5 ez188
          cases ez188
          rename_i h6 ez189
          cases ez189
          rename_i h7 ez190
          cases ez190
          rename_i h8 ez191
          cases ez191
          rename_i h9 ez192
          cases ez192
          rename_i h10 ez193
          cases ez193
          rename_i h11 ez194
          cases ez194
          rename_i h12 ez195
          cases ez195
          rename_i h13 ez196
          cases ez196
          rename_i h14 ez197
          cases ez197
          rename_i h15 h16
          refine TW_mk w wr.drew b o n c k m cv q Av (lg.take k) r ?_
          exact ⟨SD, h0, h1, h2, h3, h4, h5, h6, h7, h8, h9, h10, (fun g1 => ⟨As, cs, rfl, hrs⟩), (fun g1 g2 => by obtain ⟨⟨f6, f11⟩, A', c', e, r12⟩ := h12 g1 g2; cases f11), (fun g1 g2 => by obtain ⟨⟨f5, f6, f11, f12⟩, A', c', e, r13⟩ := h13 g1 g2; cases f11), (fun g1 g2 => by obtain ⟨⟨f5, f6, f11, f12, f13⟩, A', c', g, e, b14, r14⟩ := h14 g1 g2; cases f11), (fun g1 => by obtain ⟨⟨f5, f6, f11, f12, f14⟩, g', c', e, le, bl⟩ := h15 g1; cases f11), h16⟩
        | 12, _ =>
          intro o ho l xs w1 hl hx hG hi hdep K hK
          obtain rfl := Option.some.inj (ho.symm.trans rfl)
          clear ho
          obtain ⟨l0, l1, l2, l3, l4, l5, l6, l7, l8, l9, l10, l11, l12, l13, l14, l15, l16, rfl⟩ := TW_b l hl
          obtain ⟨x0, x1, x2, x3, x4, x5, x6, x7, x8, x9, x10, x11, x12, x13, x14, x15, x16, rfl⟩ := TW_v xs hx
          obtain rfl : l12 = false := hi
          obtain rfl : l6 = true := hdep 6 (by kernel_rfl)
          obtain rfl : l11 = true := hdep 11 (by kernel_rfl)
          clear hdep hl hx
          dsimp only [setAll, List.set_cons_zero, List.set_cons_succ] at hK ⊢
          have hf := TW_get w wr.drew b o n c k m cv q Av (lg.take k) r hG
          have hl15 : l15 = false := by
            cases l15 with
            | false => rfl
            | true => exact absurd (hf.2.2.2.2.2.2.2.2.2.2.2.2.2.2.2.2.1 rfl).1.2.2.2.1 (by decide)
          subst hl15
          have hbw := hf.1.1 rfl
          have hF6 := (hf.2.2.2.2.2.2.2.1 rfl rfl)
          have hF7 := (hf.2.2.2.2.2.2.2.2.2.2.2.2.1 rfl)
          clear hf
          cases hF6
          rename_i g ez198
          cases ez198
          rename_i ez199 hown
          subst ez199
          cases hF7
          rename_i As ez200
          cases ez200
          rename_i cs ez201
          cases ez201
          rename_i ez202 hrs
          subst ez202
          have hrd := hrs.below hbw
          have hsz := hbw.size
          refine want_step2 (by simp [Region.wanted]) ?_
          refine wp_app_all w1 (.tmp 17) (.tmp 22) 23 rfl wr.drew.heap.size 4 i0 (.bool false) 1 Try.underlying23 hi0 hz0 hz1 hz2 rfl (by decide) (.slice (some ⟨g, 0, none⟩) 0 0) 0 [] rfl hown As m cs (r.map Value.bool) rfl hrd (oneCell_bools _) (by omega) hsz ?_
          intro A' c' w3 hown3 hg3
          dsimp only [Act.put]
          simp only [List.setIfInBounds_toArray]
          refine hK.out _ _ ?_
          clear hK K
          have hC := TW_get w wr.drew b o n c k m cv q Av (lg.take k) r hG
          cases hC
          rename_i SD ez203
          cases ez203
          rename_i h0 ez204
          cases ez204
          rename_i h1 ez205
          cases ez205
          rename_i h2 ez206
          cases ez206
          rename_i h3 ez207
          cases ez207
          rename_i h4 ez208
          cases ez208
          rename_i h5 ez209
          cases ez209
          rename_i h6 ez210
          cases ez210
          rename_i h7 ez211
          cases ez211
          rename_i h8 ez212
          cases ez212
          rename_i h9 ez213
          cases ez213
          rename_i h10 ez214
          cases ez214
          rename_i h11 ez215
          cases ez215
          rename_i h12 ez216
          cases ez216
          rename_i h13 ez217
          cases ez217
          rename_i h14 ez218
          cases ez218
          rename_i h15 h16
          refine TW_mk w wr.drew b o n c k m cv q Av (lg.take k) r ?_
          exact ⟨⟨fun g => (SD.1 g).grown hg3 (SD.1 g).size (fun k hk => (hown.lt k hk).1), SD.2⟩, h0, h1, h2, h3, h4, h5, (fun _ g2 => by cases g2), h7, h8, h9, h10, h11, (fun g1 g2 => ⟨⟨rfl, rfl⟩, A', c', by rw [Nat.zero_add], by simpa using hown3⟩), (fun g1 g2 => by obtain ⟨⟨f5, f6, f11, f12⟩, A', c', e, r13⟩ := h13 g1 g2; cases f12), (fun g1 g2 => by obtain ⟨⟨f5, f6, f11, f12, f13⟩, A', c', g, e, b14, r14⟩ := h14 g1 g2; cases f12), (fun g1 => by obtain ⟨⟨f5, f6, f11, f12, f14⟩, g', c', e, le, bl⟩ := h15 g1; cases f12), h16⟩
        | 13, _ =>
          intro o ho l xs w1 hl hx hG hi hdep K hK
          obtain rfl := Option.some.inj (ho.symm.trans rfl)
          clear ho
          obtain ⟨l0, l1, l2, l3, l4, l5, l6, l7, l8, l9, l10, l11, l12, l13, l14, l15, l16, rfl⟩ := TW_b l hl
          obtain ⟨x0, x1, x2, x3, x4, x5, x6, x7, x8, x9, x10, x11, x12, x13, x14, x15, x16, rfl⟩ := TW_v xs hx
          obtain rfl : l13 = false := hi
          obtain rfl : l5 = true := hdep 5 (by kernel_rfl)
          obtain rfl : l12 = true := hdep 12 (by kernel_rfl)
          clear hdep hl hx
          dsimp only [setAll, List.set_cons_zero, List.set_cons_succ] at hK ⊢
          have hf := TW_get w wr.drew b o n c k m cv q Av (lg.take k) r hG
          have hF0 := (hf.2.2.2.2.2.2.1 rfl)
          have hF1 := (hf.2.2.2.2.2.2.2.2.2.2.2.2.2.1 rfl rfl)
          clear hf
          subst hF0
          cases hF1
          rename_i ez219 ez220
          cases ez219
          rename_i f6 f11
          cases ez220
          rename_i A' ez221
          cases ez221
          rename_i c' ez222
          cases ez222
          rename_i ez223 hown
          subst ez223
          go_simp
          refine hK.out _ _ ?_
          clear hK K
          have hC := TW_get w wr.drew b o n c k m cv q Av (lg.take k) r hG
          cases hC
          rename_i SD ez224
          cases ez224
          rename_i h0 ez225
          cases ez225
          rename_i h1 ez226
          cases ez226
          rename_i h2 ez227
          cases ez227
          rename_i h3 ez228
          cases ez228
          rename_i h4 ez229
          cases ez229
          rename_i h5 ez230
          cases ez230
          rename_i h6 ez231
          cases ez231
          rename_i h7 ez232
          cases ez232
          rename_i h8 ez233
          cases ez233
          rename_i h9 ez234
          cases ez234
          rename_i h10 ez235
          cases ez235
          rename_i h11 ez236
          cases ez236
          rename_i h12 ez237
          cases ez237
          rename_i h13 ez238
          cases ez238
          rename_i h14 ez239
          cases ez239
          rename_i h15 h16
          refine TW_mk w wr.drew b o n c k m cv q Av (lg.take k) r ?_
          exact ⟨SD, h0, h1, h2, h3, h4, h5, (fun _ g2 => by cases g2), h7, h8, h9, h10, h11, (fun _ g2 => by cases g2), (fun g1 g2 => ⟨⟨rfl, f6, f11, rfl⟩, A', c', rfl, hown⟩), (fun g1 g2 => by obtain ⟨⟨f5, f6, f11, f12, f13⟩, A', c', g, e, b14, r14⟩ := h14 g1 g2; cases f13), h15, h16⟩
        | 14, _ =>
          intro o ho l xs w1 hl hx hG hi hdep K hK
          obtain rfl := Option.some.inj (ho.symm.trans rfl)
          clear ho
          obtain ⟨l0, l1, l2, l3, l4, l5, l6, l7, l8, l9, l10, l11, l12, l13, l14, l15, l16, rfl⟩ := TW_b l hl
          obtain ⟨x0, x1, x2, x3, x4, x5, x6, x7, x8, x9, x10, x11, x12, x13, x14, x15, x16, rfl⟩ := TW_v xs hx
          obtain rfl : l14 = false := hi
          obtain rfl : l13 = true := hdep 13 (by kernel_rfl)
          clear hdep hl hx
          dsimp only [setAll, List.set_cons_zero, List.set_cons_succ] at hK ⊢
          have hf := TW_get w wr.drew b o n c k m cv q Av (lg.take k) r hG
          have hF0 := (hf.2.2.2.2.2.2.2.2.2.2.2.2.2.2.1 rfl rfl)
          clear hf
          cases hF0
          rename_i ez240 ez241
          cases ez240
          rename_i f5 ez242
          cases ez242
          rename_i f6 ez243
          cases ez243
          rename_i f11 f12
          cases ez241
          rename_i A' ez244
          cases ez244
          rename_i c' ez245
          cases ez245
          rename_i ez246 hown
          subst ez246
          go_simp
          refine hK.out _ _ ?_
          clear hK K
          have hC := TW_get w wr.drew b o n c k m cv q Av (lg.take k) r hG
          cases hC
          rename_i SD ez247
          cases ez247
          rename_i h0 ez248
          cases ez248
          rename_i h1 ez249
          cases ez249
          rename_i h2 ez250
          cases ez250
          rename_i h3 ez251
          cases ez251
          rename_i h4 ez252
          cases ez252
          rename_i h5 ez253
          cases ez253
          rename_i h6 ez254
          cases ez254
          rename_i h7 ez255
          cases ez255
          rename_i h8 ez256
          cases ez256
          rename_i h9 ez257
          cases ez257
          rename_i h10 ez258
          cases ez258
          rename_i h11 ez259
          cases ez259
          rename_i h12 ez260
          cases ez260
          rename_i h13 ez261
          cases ez261
          rename_i h14 ez262
          cases ez262
          rename_i h15 h16
          have hb := fun ob => (Below.refl w1.heap.size w1).alloc (Nat.le_refl _) ob
          refine TW_mk w wr.drew b o n c k m cv q Av (lg.take k) r ?_
          exact ⟨⟨fun g => below_then (SD.1 g) (hb _), SD.2⟩, (fun g1 => by obtain e := h0 g1; exact e), (fun g1 => by obtain e := h1 g1; exact e), (fun g1 => by obtain e := h2 g1; exact e), (fun g1 => by obtain e := h3 g1; exact e), (fun g1 => by obtain e := h4 g1; exact e), (fun g1 => by obtain e := h5 g1; exact e), (fun g1 g2 => by obtain ⟨g, e, r6⟩ := h6 g1 g2; exact ⟨g, e, own_below r6 (hb _)⟩), (fun g1 => by obtain e := h7 g1; exact e), (fun g1 => by obtain e := h8 g1; exact e), (fun g1 => by obtain e := h9 g1; exact e), (fun g1 => by obtain e := h10 g1; exact e), (fun g1 => by obtain ⟨As, cs, e, hrs⟩ := h11 g1; exact ⟨As, cs, e, hrs⟩), (fun _ g2 => by cases g2), (fun _ g2 => by cases g2), (fun g1 g2 => ⟨⟨f5, f6, f11, f12, rfl⟩, A', c', _, rfl, Blk.new _ _ _, own_below hown (hb _)⟩), (fun g1 => by obtain ⟨⟨f5, f6, f11, f12, f14⟩, g', c', e, le, bl⟩ := h15 g1; cases f14), (fun g1 => by obtain ⟨⟨f0, f15⟩, e⟩ := h16 g1; exact ⟨⟨f0, f15⟩, e⟩)⟩
        | 15, _ =>
          intro o ho l xs w1 hl hx hG hi hdep K hK
          obtain rfl := Option.some.inj (ho.symm.trans rfl)
          clear ho
          obtain ⟨l0, l1, l2, l3, l4, l5, l6, l7, l8, l9, l10, l11, l12, l13, l14, l15, l16, rfl⟩ := TW_b l hl
          obtain ⟨x0, x1, x2, x3, x4, x5, x6, x7, x8, x9, x10, x11, x12, x13, x14, x15, x16, rfl⟩ := TW_v xs hx
          obtain rfl : l15 = false := hi
          obtain rfl : l0 = true := hdep 0 (by kernel_rfl)
          obtain rfl : l14 = true := hdep 14 (by kernel_rfl)
          obtain rfl : l12 = true := hdep 12 (by kernel_rfl)
          clear hdep hl hx
          dsimp only [setAll, List.set_cons_zero, List.set_cons_succ] at hK ⊢
          have hf := TW_get w wr.drew b o n c k m cv q Av (lg.take k) r hG
          have hbw := hf.1.1 rfl
          have hF1 := (hf.2.1 rfl)
          have hF2 := (hf.2.2.2.2.2.2.2.2.2.2.2.2.2.2.2.1 rfl rfl)
          clear hf
          subst hF1
          cases hF2
          rename_i ez263 ez264
          cases ez263
          rename_i f5 ez265
          cases ez265
          rename_i f6 ez266
          cases ez266
          rename_i f11 ez267
          cases ez267
          rename_i f12' f13'
          cases ez264
          rename_i A' ez268
          cases ez268
          rename_i c' ez269
          cases ez269
          rename_i g ez270
          cases ez270
          rename_i ez271 ez272
          cases ez272
          rename_i hbk hown
          subst ez271
          have hled : LE wr.drew w.heap.size 59 4 (.slice Av k cv) k (lg.take k) := hle
          have hle1 := hled.below hbw
          have hbel2 := below_then hbel.drew hbw
          refine want_step2 (by simp [Region.wanted]) ?_
          refine wp_ev w1 (.tmp 11) (.tmp 25) 22 rfl w.heap.size 59 4 i1 (.agg #[.int .u8 0, .slice none 0 0]) Try.underlying22 hi1 hy0 hy1 hy2 rfl (by decide) (.slice Av k cv) k (lg.take k) rfl hle1 g q A' m c' r rfl hbk hrm (RowAt.of_own hown) (by omega) hbel2.size ?_
          intro g' cp w3 hle3 hg3 hbg3
          dsimp only [Act.put]
          simp only [List.setIfInBounds_toArray]
          refine hK.out _ _ ?_
          clear hK K
          have hC := TW_get w wr.drew b o n c k m cv q Av (lg.take k) r hG
          cases hC
          rename_i SD ez273
          cases ez273
          rename_i h0 ez274
          cases ez274
          rename_i h1 ez275
          cases ez275
          rename_i h2 ez276
          cases ez276
          rename_i h3 ez277
          cases ez277
          rename_i h4 ez278
          cases ez278
          rename_i h5 ez279
          cases ez279
          rename_i h6 ez280
          cases ez280
          rename_i h7 ez281
          cases ez281
          rename_i h8 ez282
          cases ez282
          rename_i h9 ez283
          cases ez283
          rename_i h10 ez284
          cases ez284
          rename_i h11 ez285
          cases ez285
          rename_i h12 ez286
          cases ez286
          rename_i h13 ez287
          cases ez287
          rename_i h14 ez288
          cases ez288
          rename_i h15 h16
          refine TW_mk w wr.drew b o n c k m cv q Av (lg.take k) r ?_
          exact ⟨⟨(fun g => by cases g), SD.2⟩, h0, h1, h2, h3, h4, h5, (fun _ g2 => by cases g2), h7, h8, h9, h10, h11, (fun g1 g2 => by obtain ⟨⟨f6, f11⟩, A', c', e, r12⟩ := h12 g1 g2; exact absurd (f13'.symm.trans g2) (by decide)), (fun _ g2 => by cases g2), (fun _ g2 => by cases g2), (fun g1 => ⟨⟨f5, f6, f11, rfl, rfl⟩, g', cp, rfl, hle3, hbel2.grown hg3 hbel2.size hbg3⟩), (fun g1 => by obtain ⟨⟨f0, f15⟩, e⟩ := h16 g1; cases f15)⟩
        | 16, _ =>
          intro o ho l xs w1 hl hx hG hi hdep K hK
          obtain rfl := Option.some.inj (ho.symm.trans rfl)
          clear ho
          obtain ⟨l0, l1, l2, l3, l4, l5, l6, l7, l8, l9, l10, l11, l12, l13, l14, l15, l16, rfl⟩ := TW_b l hl
          obtain ⟨x0, x1, x2, x3, x4, x5, x6, x7, x8, x9, x10, x11, x12, x13, x14, x15, x16, rfl⟩ := TW_v xs hx
          obtain rfl : l16 = false := hi
          obtain rfl : l15 = true := hdep 15 (by kernel_rfl)
          obtain rfl : l0 = true := hdep 0 (by kernel_rfl)
          obtain rfl : l1 = true := hdep 1 (by kernel_rfl)
          obtain rfl : l2 = true := hdep 2 (by kernel_rfl)
          obtain rfl : l3 = true := hdep 3 (by kernel_rfl)
          obtain rfl : l4 = true := hdep 4 (by kernel_rfl)
          obtain rfl : l5 = true := hdep 5 (by kernel_rfl)
          obtain rfl : l6 = true := hdep 6 (by kernel_rfl)
          obtain rfl : l7 = true := hdep 7 (by kernel_rfl)
          obtain rfl : l8 = true := hdep 8 (by kernel_rfl)
          obtain rfl : l9 = true := hdep 9 (by kernel_rfl)
          obtain rfl : l10 = true := hdep 10 (by kernel_rfl)
          obtain rfl : l11 = true := hdep 11 (by kernel_rfl)
          obtain rfl : l12 = true := hdep 12 (by kernel_rfl)
          obtain rfl : l13 = true := hdep 13 (by kernel_rfl)
          obtain rfl : l14 = true := hdep 14 (by kernel_rfl)
          clear hdep hl hx
          dsimp only [setAll, List.set_cons_zero, List.set_cons_succ] at hK ⊢
          have hf := TW_get w wr.drew b o n c k m cv q Av (lg.take k) r hG
          have hF0 := (hf.2.2.2.2.2.2.2.2.2.2.2.2.2.2.2.2.1 rfl)
          clear hf
          cases hF0
          rename_i _ ez289
          cases ez289
          rename_i g' ez290
          cases ez290
          rename_i c' ez291
          cases ez291
          rename_i ez292 ez293
          cases ez293
          rename_i _ _
          subst ez292
          go_simp
          refine hK.out _ _ ?_
          clear hK K
          have hC := TW_get w wr.drew b o n c k m cv q Av (lg.take k) r hG
          cases hC
          rename_i SD ez294
          cases ez294
          rename_i h0 ez295
          cases ez295
          rename_i h1 ez296
          cases ez296
          rename_i h2 ez297
          cases ez297
          rename_i h3 ez298
          cases ez298
          rename_i h4 ez299
          cases ez299
          rename_i h5 ez300
          cases ez300
          rename_i h6 ez301
          cases ez301
          rename_i h7 ez302
          cases ez302
          rename_i h8 ez303
          cases ez303
          rename_i h9 ez304
          cases ez304
          rename_i h10 ez305
          cases ez305
          rename_i h11 ez306
          cases ez306
          rename_i h12 ez307
          cases ez307
          rename_i h13 ez308
          cases ez308
          rename_i h14 ez309
          cases ez309
          rename_i h15 h16
          refine TW_mk w wr.drew b o n c k m cv q Av (lg.take k) r ?_
          exact ⟨⟨SD.1, fun g => by cases g⟩, h0, h1, h2, h3, h4, h5, (fun _ g2 => by cases g2), h7, h8, h9, h10, h11, (fun _ g2 => by cases g2), (fun _ g2 => by cases g2), (fun _ g2 => by cases g2), h15, (fun g1 => ⟨⟨rfl, rfl⟩, rfl⟩)⟩
        | k + 17, h => exact absurd h (by omega)
      · obtain ⟨x0, x1, x2, x3, x4, x5, x6, x7, x8, x9, x10, x11, x12, x13, x14, x15, x16, rfl⟩ := TW_v xs hx
        have hG : TW w wr.drew b o n c k m cv q Av (lg.take k) r [true, true, true, true, true, true, true, true, true, true, true, true, true, true, true, true, true] [x0, x1, x2, x3, x4, x5, x6, x7, x8, x9, x10, x11, x12, x13, x14, x15, x16] wf := hG
        have hf := TW_get w wr.drew b o n c k m cv q Av (lg.take k) r hG
        have hF0 := (hf.2.2.2.2.2.2.2.2.2.2.2.2.2.2.2.2.2 rfl)
        have hF1 := (hf.2.2.2.2.2.2.2.2.2.2.2.2.2.2.2.2.1 rfl)
        clear hf
        cases hF0
        rename_i _ ez310
        subst ez310
        cases hF1
        rename_i _ ez311
        cases ez311
        rename_i g' ez312
        cases ez312
        rename_i c' ez313
        cases ez313
        rename_i ez314 ez315
        cases ez315
        rename_i hle9 hbel9
        subst ez314
        clear hG hx
        dsimp only [setAll, List.set_cons_zero, List.set_cons_succ]
        go_wp2_with fail
        go_roundw
        case rel => exact ⟨k + 1, c', _, by omega, by go_num, rfl, by rw [take_snoc HI.out]; exact hle9, hbel9⟩
        case measure => simp [intOf]; omega
    · have hkk : k = n := by omega
      subst hkk
      go_wp2_with fail
      go_ret
      rw [List.take_of_length_le (by have := HL.out; omega)] at hle
      exact ⟨Av, cv, rfl, hle, hbel⟩
end Go.Proofs.Ytfjdlbilnoojkaa
