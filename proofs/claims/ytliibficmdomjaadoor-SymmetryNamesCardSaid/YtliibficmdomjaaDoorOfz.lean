/- repeat.Of gives the lattice of a grid, or the error of Check. -/
import Derived.Test.YtliibficmdomjaaDoorMg10z
import Derived.Deep.LoopGhost
import Derived.WalkMore
namespace Go.Proofs.YtliibficmdomjaaDoor
open Go.RowKit

/-- The lattice of a grid, or zeros, with the error. -/
def ofG (g : Gd) : (Int × Int × Int) × Int := if chkG g = 0 then ((((latA g.w.toNat g.h.toNat g.bits : Nat) : Int), ((latB g.w.toNat g.h.toNat g.bits : Nat) : Int), ((latC g.w.toNat g.h.toNat g.bits : Nat) : Int)), 0) else ((0, 0, 0), chkG g)
theorem ofG_ok {a b : Nat} {bs : List Bool} (h : chkG ⟨a, b, bs⟩ = 0) : ofG ⟨a, b, bs⟩ = ((((latA a b bs : Nat) : Int), ((latB a b bs : Nat) : Int), ((latC a b bs : Nat) : Int)), 0) := if_pos h
theorem ofG_bad {g : Gd} (h : chkG g ≠ 0) : ofG g = ((0, 0, 0), chkG g) := if_neg h
def LatR (r : (Int × Int × Int) × Int) (w : World) (e : Ending) (w' : World) : Prop :=
  e = .returned (.tuple #[.agg #[.int .i64 r.1.1, .int .i64 r.1.2.1, .int .i64 r.1.2.2], .int .i64 r.2]) ∧ Below w.heap.size w w'
theorem latR_bad {r : (Int × Int × Int) × Int} {k : Int} (h : r = ((0, 0, 0), k)) {w w' : World} (hb : Below w.heap.size w w') :
    LatR r w (.returned (.tuple #[.agg #[.int .i64 0, .int .i64 0, .int .i64 0], .int .i64 k])) w' := by
  subst h
  exact ⟨rfl, hb⟩
theorem latR_ok {r : (Int × Int × Int) × Int} {A B C : Nat} (h : r = (((A : Int), (B : Int), (C : Int)), 0)) {w w' : World} (hb : Below w.heap.size w w') :
    LatR r w (.returned (.tuple #[.agg #[.int .i64 A, .int .i64 B, .int .i64 C], .int .i64 0])) w' := by
  subst h
  exact ⟨rfl, hb⟩
theorem lat_eq {a b : Nat} {bs : List Bool} {A B C : Nat} (ha : 1 ≤ a) (hb : 1 ≤ b) (h : IsLat a b bs A B C) : A = latA a b bs ∧ B = latB a b bs ∧ C = latC a b bs := h.unique (lat_is ha hb)
theorem repeats_to {r : Bool} (a b bl o c : Nat) (bs : List Bool) (dx dy : Int) (w : World) (h : repB a b bs dx dy = r) (ha1 : 1 ≤ a) (hb1 : 1 ≤ b) (ha : a ≤ 64) (hb : b ≤ 64) (hc : b * a ≤ c) (hr : Rd w (some ⟨bl, o, none⟩) (b * a) (bs.map Value.bool)) :
    Calls Tryd.prog 48 #[.agg #[.int .i64 a, .int .i64 b, .slice (some ⟨bl, o, none⟩) (b * a) c], .int .i64 dx, .int .i64 dy] w fun e w' => e = .returned (.bool r) ∧ Below w.heap.size w w' := h ▸ repeats_any a b bl o c bs dx dy w ha1 hb1 ha hb hc hr
theorem Blk.set1 {w : World} {g : Nat} {t : TypeId} {x y z : Value} (h : Blk w g t #[x, y, z]) (v : Value) : Blk (w.setCell ⟨g, 0, none⟩ v) g t #[v, y, z] := by simpa using h.set_ 0 v
theorem Blk.set2 {w : World} {g : Nat} {t : TypeId} {x y z : Value} (h : Blk w g t #[x, y, z]) (v : Value) : Blk (w.setCell ⟨g, 1, none⟩ v) g t #[x, v, z] := by simpa using h.set_ 1 v
theorem Blk.setz {w : World} {g : Nat} {t : TypeId} {x y z : Value} (h : Blk w g t #[x, y, z]) (v : Value) : Blk (w.setCell ⟨g, 2, none⟩ v) g t #[x, y, v] := by simpa using h.set_ 2 v

set_option maxHeartbeats 4000000 in
set_option maxRecDepth 100000 in
theorem of_any (g : Gd) (A : Option Addr) (n c : Nat) (w : World) (hr : Rd w A n (g.bits.map Value.bool)) (hc : n ≤ c) :
    Calls Tryd.prog 37 #[.agg #[.int .i64 g.w, .int .i64 g.h, .slice A n c]] w (LatR (ofG g) w) := by
  have lb : g.bits.length = n := by simpa using hr.len
  have S0 := ((St.start w).box #[.int .i64 g.w, .int .i64 g.h, .slice A n c] 24).box #[.int .i64 0, .int .i64 0, .int .i64 0] 64
  simp only [size_alloc1, List.nil_append, List.cons_append] at S0
  obtain ⟨c0, c1, c2⟩ := (S0.blk 0 rfl).cell3
  by_cases h0 : chkG g = 0
  · obtain ⟨W, H, bs⟩ := g
    obtain ⟨a, b, h1, h2, ha1, ha, hbb1, hb, hl⟩ := chk_zero h0
    simp only at h1 h2 hl lb
    subst h1 h2
    have HC := Lib.hid (ofG_ok h0)
    have hcb : (chk (a : Int) (b : Int) n != 0) = false := by
      have h := h0
      unfold chkG at h
      simp only [lb] at h
      simpa using h
    obtain rfl : n = b * a := by omega
    simp only at S0 c0 c1 c2 hr ⊢
    obtain ⟨bl, o, hA, _⟩ := hr.at_ (Nat.mul_pos hbb1 ha1)
    subst hA
    have HR := Lib.hid (fun wz (hz : Below w.heap.size w wz) => hr.below hz)
    clear h0 lb hl hr
    go_enter Tryd.func37, Tryd.ntmps37
    go_wp2_with fail
    go_step3
    go_wp2_with fail
    refine (check_any _ _ _ _ _ _).mono ?_
    rintro e w1 ⟨rfl, hb1⟩
    have S1 := S0.keep hb1
    clear c0 c1 c2
    go_wp2_with fail
    have hL1 := Blk.new w1 64 #[.int .i64 1, .int .i64 0, .int .i64 0]
    have S2 := S1.alloc (.cells #[.int .i64 1, .int .i64 0, .int .i64 0] 64)
    have hsz : w.heap.size + 1 < w1.heap.size := (S1.blk 1 rfl).lt
    go_loopg [17] (a - 1) (fun k _ wr => ∃ A : Nat, A + k = a ∧ 1 ≤ A ∧ (∀ j : Nat, 1 ≤ j → j < A → repB a b bs j 0 = false) ∧ Blk wr w1.heap.size 64 #[.int .i64 A, .int .i64 0, .int .i64 0] ∧ Blk wr w.heap.size 24 #[.int .i64 a, .int .i64 b, .slice (some ⟨bl, o, none⟩) (b * a) c] ∧ Blk wr (w.heap.size + 1) 64 #[.int .i64 0, .int .i64 0, .int .i64 0] ∧ Below w.heap.size w wr)
    case atStart => exact ⟨1, by omega, Nat.le_refl _, fun _ h1 h2 => absurd h1 (by omega), hL1, S2.blk 0 rfl, S2.blk 1 rfl, S2.below⟩
    case round =>
      clear S0 S1 S2 hL1
      obtain ⟨A, hk, hA1, hall, hL, hG, hR0, hbel⟩ := hrel
      have HA := Lib.hid hall
      clear hall
      obtain ⟨l0, l1, l2⟩ := hL.cell3
      obtain ⟨c0, c1, c2⟩ := hG.cell3
      go_wp2_with fail
      rcases Bool.eq_false_or_eq_true (repB a b bs (A : Int) 0) with hT | hT
      · have HT := Lib.hid hT
        have HTA := Lib.hid hT
        clear hT
        refine (repeats_to a b bl o c bs (A : Int) 0 _ HT.out ha1 hbb1 ha hb hc (HR.out _ hbel)).mono ?_
        rintro e w2 ⟨rfl, hb2⟩
        replace hL := hL.keep hb2
        replace hG := hG.keep hb2
        replace hR0 := hR0.keep hb2
        replace hbel := below_then hbel hb2
        clear l0 l1 l2 c0 c1 c2
        have fL := hL.frozen3
        obtain ⟨l0, l1, l2⟩ := hL.cell3
        obtain ⟨fl0, fl1, fl2⟩ := fL
        have hL3 := hL.setz (.int .i64 1)
        have hG3 := hG.far (p := ⟨w1.heap.size, 2, none⟩) (by simp; omega) (.int .i64 1)
        have hR3 := hR0.far (p := ⟨w1.heap.size, 2, none⟩) (by simp; omega) (.int .i64 1)
        have hB3 := hbel.setCell (p := ⟨w1.heap.size, 2, none⟩) (by simp; omega) (.int .i64 1)
        have HH := Lib.hid (And.intro hL3 (And.intro hG3 (And.intro hR3 hB3)))
        clear hL3 hG3 hR3 hB3 hL hG hR0 hbel
        go_wp2_with fail
        go_step3
        go_wp2_with fail
        obtain ⟨hL, hG, hR0, hbel⟩ := HH.out
        clear l0 l1 l2 fl0 fl1 fl2 HH
        have hAa : A ≤ a := by omega
        go_loopg [34] b (fun k _ wr => ∃ C Bv : Nat, C + k = b + 1 ∧ 1 ≤ C ∧ C ≤ b ∧ (∀ l j : Nat, 1 ≤ l → l < C → j < A → repB a b bs j l = false) ∧ Blk wr w1.heap.size 64 #[.int .i64 A, .int .i64 Bv, .int .i64 C] ∧ Blk wr w.heap.size 24 #[.int .i64 a, .int .i64 b, .slice (some ⟨bl, o, none⟩) (b * a) c] ∧ Blk wr (w.heap.size + 1) 64 #[.int .i64 0, .int .i64 0, .int .i64 0] ∧ Below w.heap.size w wr)
        case atStart => exact ⟨1, 0, by omega, Nat.le_refl _, hbb1, fun _ _ h1 h2 => absurd h1 (by omega), hL, hG, hR0, hbel⟩
        case round =>
          obtain ⟨gk2, hgk2⟩ : ∃ q, q = gk := ⟨gk, rfl⟩
          clear hL hG hR0 hbel
          obtain ⟨C, Bv, hkC, hC1, hCb, hall, hL, hG, hR0, hbel⟩ := hrel
          have HCC := Lib.hid hall
          clear hall
          obtain ⟨l0, l1, l2⟩ := hL.cell3
          obtain ⟨c0, c1, c2⟩ := hG.cell3
          go_wp2_with fail
          go_loopg [34] A (fun k s wr => ∃ x Bv : Nat, x + k = A ∧ s = .int .i64 x ∧ (∀ j : Nat, j < x → repB a b bs j C = false) ∧ Blk wr w1.heap.size 64 #[.int .i64 A, .int .i64 Bv, .int .i64 C] ∧ Blk wr w.heap.size 24 #[.int .i64 a, .int .i64 b, .slice (some ⟨bl, o, none⟩) (b * a) c] ∧ Blk wr (w.heap.size + 1) 64 #[.int .i64 0, .int .i64 0, .int .i64 0] ∧ Below w.heap.size w wr)
          case atStart => exact ⟨0, Bv, by omega, rfl, fun _ h => absurd h (by omega), hL, hG, hR0, hbel⟩
          case round =>
            obtain ⟨gk3, hgk3⟩ : ∃ q, q = gk := ⟨gk, rfl⟩
            clear hL hG hR0 hbel l0 l1 l2 c0 c1 c2 Bv
            obtain ⟨x, Bv, hkx, rfl, hall, hL, hG, hR0, hbel⟩ := hrel
            have HX := Lib.hid hall
            clear hall
            obtain ⟨l0, l1, l2⟩ := hL.cell3
            obtain ⟨fl0, fl1, fl2⟩ := hL.frozen3
            obtain ⟨c0, c1, c2⟩ := hG.cell3
            by_cases hlx : x < A
            · have hL3 := hL.set2 (.int .i64 (x : Int))
              have hG3 := hG.far (p := ⟨w1.heap.size, 1, none⟩) (by simp; omega) (.int .i64 (x : Int))
              have hR3 := hR0.far (p := ⟨w1.heap.size, 1, none⟩) (by simp; omega) (.int .i64 (x : Int))
              have hB3 := hbel.setCell (p := ⟨w1.heap.size, 1, none⟩) (by simp; omega) (.int .i64 (x : Int))
              clear hL hG hR0 hbel
              obtain ⟨m0, m1, m2⟩ := hL3.cell3
              obtain ⟨n0, n1, n2⟩ := hG3.cell3
              go_wp2_with fail
              rcases Bool.eq_false_or_eq_true (repB a b bs (x : Int) (C : Int)) with hT | hT
              · have HT := Lib.hid hT
                clear hT
                refine (repeats_to a b bl o c bs (x : Int) (C : Int) _ HT.out ha1 hbb1 ha hb hc (HR.out _ hB3)).mono ?_
                rintro e w3 ⟨rfl, hb3⟩
                have hL4 := hL3.keep hb3
                have hR4 := hR3.keep hb3
                have hB4 := below_then hB3 hb3
                clear l0 l1 l2 fl0 fl1 fl2 c0 c1 c2 m0 m1 m2 n0 n1 n2
                obtain ⟨l0, l1, l2⟩ := hL4.cell3
                obtain ⟨r0, r1, r2⟩ := hR4.cell3
                obtain ⟨f0, f1, f2⟩ := hR4.frozen3
                obtain ⟨q0, q1, q2⟩ := (hR4.set3 (.int .i64 A) (.int .i64 x) (.int .i64 C)).cell3
                have hE := lat_eq ha1 hbb1 ⟨hA1, hAa, HTA.out, HA.out, hlx, hC1, hCb, HT.out, fun k l h1 h2 h3 => HCC.out l k h1 h2 h3, HX.out⟩
                have hCC : Hid (ofG ⟨a, b, bs⟩ = (((A : Int), (x : Int), (C : Int)), 0)) := Lib.hid (by rw [HC.out, ← hE.1, ← hE.2.1, ← hE.2.2])
                clear hE
                go_wp2_with fail
                try rw [Exit.noGoto_ret]
                refine bodyPost_ret (v := .tuple #[.agg #[.int .i64 A, .int .i64 x, .int .i64 C], .int .i64 0]) (by simp [results, Tryd.results37, go_sem, q0, q1, q2]) rfl ?_
                exact latR_ok hCC.out (below_set3 hB4 (by omega) _ _ _)
              · have HT := Lib.hid hT
                clear hT
                refine (repeats_to a b bl o c bs (x : Int) (C : Int) _ HT.out ha1 hbb1 ha hb hc (HR.out _ hB3)).mono ?_
                rintro e w3 ⟨rfl, hb3⟩
                have hL4 := hL3.keep hb3
                have hG4 := hG3.keep hb3
                have hR4 := hR3.keep hb3
                have hB4 := below_then hB3 hb3
                clear l0 l1 l2 fl0 fl1 fl2 c0 c1 c2 m0 m1 m2 n0 n1 n2
                go_wp2_with fail
                go_roundg (gk3 - 1)
                case rel =>
                  refine ⟨x + 1, x, by omega, by go_num, fun j hj => ?_, hL4, hG4, hR4, hB4⟩
                  rcases Nat.lt_or_ge j x with h | h
                  · exact HX.out j h
                  · obtain rfl : j = x := by omega
                    exact HT.out
                case measure => omega
            · obtain rfl : x = A := by omega
              have hCb2 : C < b := by
                rcases Nat.lt_or_ge C b with h | h
                · exact h
                · obtain rfl : C = b := by omega
                  have := HX.out 0 (by omega)
                  rw [show ((0 : Nat) : Int) = 0 from rfl, repB_h] at this
                  cases this
              have hL3 := hL.setz (.int .i64 ((C : Int) + 1))
              have hG3 := hG.far (p := ⟨w1.heap.size, 2, none⟩) (by simp; omega) (.int .i64 ((C : Int) + 1))
              have hR3 := hR0.far (p := ⟨w1.heap.size, 2, none⟩) (by simp; omega) (.int .i64 ((C : Int) + 1))
              have hB3 := hbel.setCell (p := ⟨w1.heap.size, 2, none⟩) (by simp; omega) (.int .i64 ((C : Int) + 1))
              have HH := Lib.hid (And.intro hL3 (And.intro hG3 (And.intro hR3 hB3)))
              clear hL3 hG3 hR3 hB3 hL hG hR0 hbel
              go_wp2_with fail
              go_roundg (gk2 - 1)
              case rel =>
                obtain ⟨hL, hG, hR0, hbel⟩ := HH.out
                refine ⟨C + 1, Bv, by omega, by omega, by omega, fun l j h1 h2 h3 => ?_, by simpa using hL, hG, hR0, hbel⟩
                rcases Nat.lt_or_ge l C with h | h
                · exact HCC.out l j h1 h h3
                · obtain rfl : l = C := by omega
                  exact HX.out j h3
              case measure => omega
      · have HT := Lib.hid hT
        have hlt : A < a := by
          rcases Nat.lt_or_ge A a with h | h
          · exact h
          · obtain rfl : A = a := by omega
            rw [repB_w] at hT; cases hT
        clear hT
        refine (repeats_to a b bl o c bs (A : Int) 0 _ HT.out ha1 hbb1 ha hb hc (HR.out _ hbel)).mono ?_
        rintro e w2 ⟨rfl, hb2⟩
        replace hL := hL.keep hb2
        replace hG := hG.keep hb2
        replace hR0 := hR0.keep hb2
        replace hbel := below_then hbel hb2
        clear l0 l1 l2 c0 c1 c2
        obtain ⟨l0, l1, l2⟩ := hL.cell3
        obtain ⟨fl0, fl1, fl2⟩ := hL.frozen3
        have hL3 := hL.set1 (.int .i64 ((A : Int) + 1))
        have hG3 := hG.far (p := ⟨w1.heap.size, 0, none⟩) (by simp; omega) (.int .i64 ((A : Int) + 1))
        have hR3 := hR0.far (p := ⟨w1.heap.size, 0, none⟩) (by simp; omega) (.int .i64 ((A : Int) + 1))
        have hB3 := hbel.setCell (p := ⟨w1.heap.size, 0, none⟩) (by simp; omega) (.int .i64 ((A : Int) + 1))
        have HH := Lib.hid (And.intro hL3 (And.intro hG3 (And.intro hR3 hB3)))
        clear hL3 hG3 hR3 hB3 hL hG hR0 hbel
        go_wp2_with fail
        go_roundg (gk - 1)
        case rel =>
          obtain ⟨hL, hG, hR0, hbel⟩ := HH.out
          refine ⟨A + 1, by omega, by omega, fun j h1 h2 => ?_, by simpa using hL, hG, hR0, hbel⟩
          rcases Nat.lt_or_ge j A with h | h
          · exact HA.out j h1 h
          · obtain rfl : j = A := by omega
            exact HT.out
        case measure => omega
  · have hn0 : chk g.w g.h n ≠ 0 := by
      have h := h0
      unfold chkG at h
      rw [lb] at h
      exact h
    have hcb : (chk g.w g.h n != 0) = true := by simpa using hn0
    have HC : Hid (ofG g = ((0, 0, 0), chk g.w g.h n)) := Lib.hid (by rw [ofG_bad h0]; unfold chkG; rw [lb])
    clear h0 lb hr hn0
    go_enter Tryd.func37, Tryd.ntmps37
    go_wp2_with fail
    go_step3
    go_wp2_with fail
    refine (check_any _ _ _ _ _ _).mono ?_
    rintro e w1 ⟨rfl, hb1⟩
    have S1 := S0.keep hb1
    clear c0 c1 c2
    have hR2 := S1.blk 1 rfl
    obtain ⟨r0, r1, r2⟩ := hR2.cell3
    obtain ⟨f0, f1, f2⟩ := hR2.frozen3
    obtain ⟨q0, q1, q2⟩ := (hR2.set3 (.int .i64 0) (.int .i64 0) (.int .i64 0)).cell3
    go_wp2_with fail
    try rw [Exit.noGoto_ret]
    refine bodyPost_ret (v := .tuple #[.agg #[.int .i64 0, .int .i64 0, .int .i64 0], .int .i64 (chk g.w g.h n)]) (by simp [results, Tryd.results37, go_sem, q0, q1, q2]) rfl ?_
    exact latR_bad HC.out (below_set3 S1.below (by omega) _ _ _)
end Go.Proofs.YtliibficmdomjaaDoor
