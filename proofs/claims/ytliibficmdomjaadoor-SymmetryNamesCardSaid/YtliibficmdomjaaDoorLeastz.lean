/- symmetry.Least: the least form of any grid. -/
import Derived.Test.YtliibficmdomjaaDoorLeastQz
import Derived.Test.YtliibficmdomjaaDoorWindow7z
import Derived.Test.YtliibficmdomjaaDoorMg10z
import Derived.Test.YtliibficmdomjaaDoorMg8z
import Derived.Test.YtliibficmdomjaaDoorMg11z
import Derived.Test.YtliibficmdomjaaDoorMg9z
import Derived.Test.YtliibficmdomjaaDoorSprdPz
import Derived.Test.YtliibficmdomjaaDoorMg6z
namespace Go.Proofs.YtliibficmdomjaaDoor
open Go.RowKit

/-- What Least hands back. -/
def LeastRet (g : Gd) (o t : Int) (w : World) (e : Ending) (w' : World) : Prop :=
  ∃ A n c, e = .returned (.tuple #[.agg #[.int .i64 g.w, .int .i64 g.h, .slice A n c], .int .i64 o, .int .i64 t]) ∧ w'.ownsRow w.heap.size 4 1 (.slice A n c) n (g.bits.map Value.bool) ∧ Below w.heap.size w w'
/-- What stands in memory while the least form is sought. -/
structure LMem (w : World) (G : Array Value) (bb : Nat) (gb : Gd) (Ab : Option Addr) (nb cb : Nat) (wr : World) : Prop where
  bel : Below w.heap.size w wr
  g : Blk wr w.heap.size 24 G
  z : Blk wr (w.heap.size + 1) 24 #[.int .i64 0, .int .i64 0, .slice none 0 0]
  b : Blk wr bb 24 #[.int .i64 gb.w, .int .i64 gb.h, .slice Ab nb cb]
  own : wr.ownsRow w.heap.size 4 1 (.slice Ab nb cb) nb (gb.bits.map Value.bool)
  far : w.heap.size + 1 < bb
  chk : chkG gb = 0
structure LOne (w : World) (bo : Nat) (P Q : Nat) (obs : List Bool) (Ao : Option Addr) (no co : Nat) (wr : World) : Prop where
  o : Blk wr bo 24 #[.int .i64 P, .int .i64 Q, .slice Ao no co]
  own : wr.ownsRow w.heap.size 4 1 (.slice Ao no co) no (obs.map Value.bool)
section
variable {w wr w2 : World} {G : Array Value} {bb bo : Nat} {gb : Gd} {Ab Ao : Option Addr} {nb cb no co P Q : Nat} {obs : List Bool}
theorem LMem.keep (h : LMem w G bb gb Ab nb cb wr) (hb : Below wr.heap.size wr w2) : LMem w G bb gb Ab nb cb w2 :=
  ⟨below_then h.bel hb, h.g.keep hb, h.z.keep hb, h.b.keep hb, own_below h.own hb, h.far, h.chk⟩
theorem LOne.keep (h : LOne w bo P Q obs Ao no co wr) (hb : Below wr.heap.size wr w2) : LOne w bo P Q obs Ao no co w2 := ⟨h.o.keep hb, own_below h.own hb⟩
theorem LMem.put {f : Gd} {Af : Option Addr} {nf cf : Nat} (h : LMem w G bb gb Ab nb cb wr) (hf : wr.ownsRow w.heap.size 4 1 (.slice Af nf cf) nf (f.bits.map Value.bool)) (hc : chkG f = 0) :
    LMem w G bb f Af nf cf (((wr.setCell ⟨bb, 0, none⟩ (.int .i64 f.w)).setCell ⟨bb, 1, none⟩ (.int .i64 f.h)).setCell ⟨bb, 2, none⟩ (.slice Af nf cf)) := by
  have k := h.far
  refine ⟨below_set3 h.bel (by omega) _ _ _, ?_, ?_, h.b.set3 _ _ _, own_set3 hf h.b (by decide) _ _ _, h.far, hc⟩
  · exact ((h.g.far (p := ⟨bb, 0, none⟩) (by simp; omega) _).far (p := ⟨bb, 1, none⟩) (by simp; omega) _).far (p := ⟨bb, 2, none⟩) (by simp; omega) _
  · exact ((h.z.far (p := ⟨bb, 0, none⟩) (by simp; omega) _).far (p := ⟨bb, 1, none⟩) (by simp; omega) _).far (p := ⟨bb, 2, none⟩) (by simp; omega) _
theorem LOne.put {cs : Array Value} (h : LOne w bo P Q obs Ao no co wr) (hb : Blk wr bb 24 cs) (hne : bo ≠ bb) (x y z : Value) :
    LOne w bo P Q obs Ao no co (((wr.setCell ⟨bb, 0, none⟩ x).setCell ⟨bb, 1, none⟩ y).setCell ⟨bb, 2, none⟩ z) :=
  ⟨((h.o.far (p := ⟨bb, 0, none⟩) (by simp; omega) _).far (p := ⟨bb, 1, none⟩) (by simp; omega) _).far (p := ⟨bb, 2, none⟩) (by simp; omega) _, own_set3 h.own hb (by decide) _ _ _⟩
end
/-- The window's sides. -/
theorem rec_le {a b : Nat} {bs : List Bool} (ha1 : 1 ≤ a) (hb1 : 1 ≤ b) (ha : a ≤ 64) (hb : b ≤ 64) : 1 ≤ recU a b bs ∧ 1 ≤ recV a b bs ∧ recU a b bs ≤ 64 ∧ recV a b bs ≤ 64 := by
  have h := lat_is (bs := bs) ha1 hb1
  obtain ⟨d1, d2, d3⟩ := rect_div ha1 hb1 h
  exact ⟨h.a1, d3, Nat.le_trans (Nat.le_of_dvd ha1 d1) ha, Nat.le_trans (Nat.le_of_dvd hb1 d2) hb⟩
theorem win_ck {a b : Nat} {bs : List Bool} (ha1 : 1 ≤ a) (hb1 : 1 ≤ b) (ha : a ≤ 64) (hb : b ≤ 64) (x y : Nat) : chkG (winG a b bs x y (recU a b bs) (recV a b bs)) = 0 := by
  obtain ⟨h1, h2, h3, h4⟩ := rec_le (bs := bs) ha1 hb1 ha hb
  exact tabD_chk h1 h2 h3 h4
theorem rect_rec {a b : Nat} {bs : List Bool} (h : chkG ⟨a, b, bs⟩ = 0) : rectG ⟨a, b, bs⟩ = ((((recU a b bs : Nat) : Int), ((recV a b bs : Nat) : Int)), 0) := rectG_ok h
theorem one_is {a b : Nat} {bs : List Bool} (ha1 : 1 ≤ a) (hb1 : 1 ≤ b) (ha : a ≤ 64) (hb : b ≤ 64) (k : Nat) : ∃ (P Q : Nat) (obs : List Bool), oneD a b bs k = ⟨P, Q, obs⟩ ∧ 1 ≤ P ∧ 1 ≤ Q ∧ P ≤ 64 ∧ Q ≤ 64 ∧ obs.length = Q * P ∧ chkG ⟨(P : Int), (Q : Int), obs⟩ = 0 := by
  obtain ⟨h1, h2, h3, h4⟩ := rec_le (bs := bs) ha1 hb1 ha hb
  have hc : chkG (oneD a b bs k) = 0 := by
    unfold oneD appT winG tabD
    simp only [Int.toNat_natCast]
    unfold appG appB
    cases k.testBit 2
    · exact chk_tab (by simpa) (by simpa) (by simpa) (by simpa)
    · exact chk_tab (by simpa) (by simpa) (by simpa) (by simpa)
  obtain ⟨P, Q, e1, e2, q1, q2, q3, q4, q5⟩ := chk_zero hc
  generalize oneD a b bs k = r at *
  obtain ⟨X, Y, l⟩ := r
  simp only at e1 e2 q5
  subst e1 e2
  exact ⟨P, Q, l, rfl, q1, q3, q2, q4, q5, hc⟩
theorem allLs_zero {a b : Nat} {bs : List Bool} : allLs a b bs 0 = (winG a b bs 0 0 (recU a b bs) (recV a b bs), 0) := rfl
theorem allLs_succ {a b k P Q : Nat} {bs obs : List Bool} (h : oneD a b bs k = ⟨P, Q, obs⟩) : allLs a b bs (k + 1) = opLs P Q obs k (recU P Q obs) (recV P Q obs) (recV P Q obs) (allLs a b bs k) := by
  unfold allLs
  rw [foldN_succ, h]
  rfl
theorem opLs_zero {a b op u v : Nat} {bs : List Bool} {s : Gd × Nat} : opLs a b bs op u v 0 s = s := rfl
theorem opLs_succ {a b op u v k : Nat} {bs : List Bool} {s : Gd × Nat} : opLs a b bs op u v (k + 1) s = rowLs a b bs op k u v u (opLs a b bs op u v k s) := by
  unfold opLs
  rw [foldN_succ]
theorem rowLs_zero {a b op y u v : Nat} {bs : List Bool} {s : Gd × Nat} : rowLs a b bs op y u v 0 s = s := rfl
theorem rowLs_succ {a b op y u v k : Nat} {bs : List Bool} {s : Gd × Nat} : rowLs a b bs op y u v (k + 1) s = stepL (winG a b bs k y u v) op (rowLs a b bs op y u v k s) := by
  unfold rowLs
  rw [foldN_succ]

set_option maxHeartbeats 8000000 in
set_option maxRecDepth 100000 in
theorem least_main (a b bl o c : Nat) (bs : List Bool) (w : World) (ha1 : 1 ≤ a) (hb1 : 1 ≤ b) (ha : a ≤ 16) (hb : b ≤ 16) (hl : bs.length = b * a) (hs : startN (a : Int) (b : Int) (b * a) = 0) (hcc : b * a ≤ c)
    (hr : Rd w (some ⟨bl, o, none⟩) (b * a) (bs.map Value.bool)) :
    Calls Tryd.prog 17 #[.agg #[.int .i64 a, .int .i64 b, .slice (some ⟨bl, o, none⟩) (b * a) c]] w (LeastRet (allLs a b bs 16).1 ((allLs a b bs 16).2 : Nat) 0 w) := by
  have hck : chkG ⟨a, b, bs⟩ = 0 := by have := (startN_zero hs).1; unfold chkG; rw [hl]; exact this
  have hcb : (startN (a : Int) (b : Int) (b * a) != 0) = false := by simpa using hs
  have HRd := Lib.hid (fun wz (hz : Below w.heap.size w wz) => hr.below hz)
  have HRc := Lib.hid (fun WW h => rect_any ⟨a, b, bs⟩ (some ⟨bl, o, none⟩) (b * a) c WW h hcc)
  rw [rect_rec hck] at HRc
  have hw0 := win_ck (bs := bs) ha1 hb1 (by omega) (by omega) 0 0
  obtain ⟨u1, u2, u3, u4⟩ := rec_le (bs := bs) ha1 hb1 (by omega) (by omega)
  have HW := Lib.hid (fun WW h => window_any a b 0 0 (recU a b bs) (recV a b bs) bl o c bs WW ha1 hb1 (by omega) (by omega) (by omega) (by omega) u3 u4 h)
  have HA := Lib.hid (fun k bl' o' c' WW (hk : k < 16) h => applied_any (recU a b bs) (recV a b bs) k bl' o' c' (winG a b bs 0 0 (recU a b bs) (recV a b bs)).bits WW u1 u2 u3 u4 hk h)
  have HO := Lib.hid (fun k => one_is (bs := bs) ha1 hb1 (show a ≤ 64 by omega) (show b ≤ 64 by omega) k)
  have HZ := Lib.hid (allLs_zero (a := a) (b := b) (bs := bs))
  have HS := Lib.hid (fun k P Q obs h => allLs_succ (a := a) (b := b) (k := k) (P := P) (Q := Q) (bs := bs) (obs := obs) h)
  have hone : ∀ k, appG (recU a b bs) (recV a b bs) (winG a b bs 0 0 (recU a b bs) (recV a b bs)).bits k = oneD a b bs k := fun k => rfl
  have hlen0 : (winG a b bs 0 0 (recU a b bs) (recV a b bs)).bits.length = recV a b bs * recU a b bs := tabD_len
  have hw : (winG a b bs 0 0 (recU a b bs) (recV a b bs)).w = (recU a b bs : Int) ∧ (winG a b bs 0 0 (recU a b bs) (recV a b bs)).h = (recV a b bs : Int) := ⟨rfl, rfl⟩
  simp only [hone] at HA
  have S0 := ((((St.start w).addRd hr).box #[.int .i64 a, .int .i64 b, .slice (some ⟨bl, o, none⟩) (b * a) c] 24).box #[.int .i64 0, .int .i64 0, .slice none 0 0] 24).box #[.int .i64 a, .int .i64 b, .slice (some ⟨bl, o, none⟩) (b * a) c] 24
  simp only [size_alloc1, List.nil_append, List.cons_append] at S0
  have HL0 := Lib.hid hlen0
  clear hr hs hck hl hone hlen0
  generalize winG a b bs 0 0 (recU a b bs) (recV a b bs) = g0 at *
  generalize recU a b bs = U at *
  generalize recV a b bs = V at *
  generalize allLs a b bs = AL at *
  generalize oneD a b bs = OD at *
  generalize b * a = n at *
  obtain ⟨c0, c1, c2⟩ := (S0.blk 1 rfl).cell3
  go_enter Tryd.func17, Tryd.ntmps17
  go_wp2_with fail
  refine (check1_any _ _ _ _ _ _ _ _ (S0.blk 3 rfl)).mono ?_
  rintro e w1 ⟨rfl, hb1'⟩
  have S1 := S0.keep hb1'
  clear c0 c1 c2 S0
  obtain ⟨c0, c1, c2⟩ := (S1.blk 1 rfl).cell3
  go_wp2_with fail
  refine (HRc.out _ (S1.rd 0 rfl)).mono ?_
  rintro e w2 ⟨rfl, hb2'⟩
  have S2 := S1.keep hb2'
  clear c0 c1 c2 S1
  obtain ⟨c0, c1, c2⟩ := (S2.blk 1 rfl).cell3
  go_wp2_with fail
  refine (HW.out _ (S2.rd 0 rfl)).mono ?_
  rintro e w3 ⟨A3, n3, c3, rfl, hown3, hb3'⟩
  obtain ⟨gw, gh⟩ := hw
  have S3 := S2.keep hb3'
  have hsz := S3.size
  have hsg := (S3.blk 3 rfl).lt
  have M0 : LMem w #[.int .i64 a, .int .i64 b, .slice (some ⟨bl, o, none⟩) n c] w3.heap.size g0 A3 n3 c3 (w3.alloc (.cells #[.int .i64 g0.w, .int .i64 g0.h, .slice A3 n3 c3] 24)) :=
    ⟨(S3.alloc _).below, (S3.blk 1 rfl).alloc _, (S3.blk 2 rfl).alloc _, Blk.new _ _ _, (own_base hown3 S2.size).alloc _, by omega, hw0⟩
  clear c0 c1 c2 S2 S3 hown3 hb1' hb2' hb3'
  rw [gw, gh] at M0
  go_wp2_with fail
  go_loopw [36, 10] (fun i qv wr => ∃ (k q : Nat) (gb : Gd) (Ab : Option Addr) (nb cb : Nat), k ≤ 16 ∧ i = .int .i64 k ∧ qv = .int .i64 q ∧ Hid (AL k = (gb, q)) ∧ LMem w #[.int .i64 a, .int .i64 b, .slice (some ⟨bl, o, none⟩) n c] w3.heap.size gb Ab nb cb wr) (fun i _ _ => 16 - (intOf i).toNat)
  case atStart => exact ⟨0, 0, g0, A3, n3, c3, Nat.zero_le _, rfl, rfl, HZ, M0⟩
  case round =>
    clear M0
    obtain ⟨k, q, gb, Ab, nb, cb, hk, rfl, rfl, HK, M⟩ := hrel
    by_cases hlt : k < 16
    · obtain ⟨P, Q, obs, hod, P1, Q1, P2, Q2, hlo, hco⟩ := HO.out k
      obtain ⟨v1, v2, v3, v4⟩ := rec_le (bs := obs) P1 Q1 P2 Q2
      have HAk := Lib.hid (fun bl' o' c' WW h => HA.out k bl' o' c' WW hlt h)
      rw [hod] at HAk
      have HRo := Lib.hid (fun A n c WW h hc => rect_any ⟨P, Q, obs⟩ A n c WW h hc)
      rw [rect_rec hco] at HRo
      have HWo := Lib.hid (fun bl o c X Y WW (hX : X ≤ 64) (hY : Y ≤ 64) h => window_any P Q X Y (recU P Q obs) (recV P Q obs) bl o c obs WW P1 Q1 P2 Q2 hX hY v3 v4 h)
      have HCk := Lib.hid (fun x y => win_ck (bs := obs) P1 Q1 P2 Q2 x y)
      have HSk := Lib.hid (HS.out k P Q obs hod)
      have hnP : 1 ≤ Q * P := Nat.mul_pos Q1 P1
      have hn0 : 1 ≤ V * U := Nat.mul_pos u2 u1
      have hfw : ∀ x y, (winG P Q obs x y (recU P Q obs) (recV P Q obs)).w = (recU P Q obs : Int) ∧ (winG P Q obs x y (recU P Q obs) (recV P Q obs)).h = (recV P Q obs : Int) := fun x y => ⟨rfl, rfl⟩
      have HFW := Lib.hid hfw
      clear hco hod hfw
      generalize recU P Q obs = u at *
      generalize recV P Q obs = v at *
      obtain ⟨c0, c1, c2⟩ := M.g.cell3
      go_wp2_with fail
      refine (HW.out _ (HRd.out _ M.bel)).mono ?_
      rintro e w4 ⟨A4, n4, c4, rfl, hown4, hb4⟩
      have M1 := M.keep hb4
      obtain rfl : n4 = V * U := by have h1 := hown4.1; have h2 := HL0.out; simp at h1; omega
      obtain ⟨g4, rfl, hg4, _, _⟩ := own_form hown4 (by omega)
      clear c0 c1 c2
      try rw [gw, gh]
      go_wp2_with fail
      refine (HAk.out _ _ _ _ (rd_of_own hown4)).mono ?_
      rintro e w5 ⟨Ao, no, co, rfl, hown5, hb5⟩
      simp only at hown5 ⊢
      have M2 := M1.keep hb5
      obtain rfl : no = Q * P := by have h1 := hown5.1; simp at h1; omega
      obtain ⟨g5, rfl, hg5, _, hco5⟩ := own_form hown5 (by omega)
      have M3 := M2.keep ((Below.refl _ _).alloc (Nat.le_refl _) (.cells #[.int .i64 P, .int .i64 Q, .slice (some ⟨g5, 0, none⟩) (Q * P) co] 24))
      have hM2 := M2.bel.size
      have O3 : LOne w w5.heap.size P Q obs (some ⟨g5, 0, none⟩) (Q * P) co (w5.alloc (.cells #[.int .i64 P, .int .i64 Q, .slice (some ⟨g5, 0, none⟩) (Q * P) co] 24)) :=
        ⟨Blk.new _ _ _, (own_base hown5 (Nat.le_trans M.bel.size hb4.size)).alloc _⟩
      have hne := M2.b.lt
      clear M M1 M2 hown4 hown5 hb4 hb5
      obtain ⟨c0, c1, c2⟩ := O3.o.cell3
      generalize hbo : w5.heap.size = bo at *
      go_wp2_with fail
      refine (HRo.out _ _ _ _ (rd_of_own O3.own) hco5).mono ?_
      rintro e w6 ⟨rfl, hb6⟩
      have M4 := M3.keep hb6
      have O4 := O3.keep hb6
      clear M3 O3 c0 c1 c2 hb6
      go_wp2_with fail
      go_loopw [52, 10] (fun i qv wr => ∃ (y q : Nat) (gb : Gd) (Ab : Option Addr) (nb cb : Nat), y ≤ v ∧ i = .int .i64 y ∧ qv = .int .i64 q ∧ Hid (opLs P Q obs k u v y (AL k) = (gb, q)) ∧ LMem w #[.int .i64 a, .int .i64 b, .slice (some ⟨bl, o, none⟩) n c] w3.heap.size gb Ab nb cb wr ∧ LOne w bo P Q obs (some ⟨g5, 0, none⟩) (Q * P) co wr) (fun i _ _ => v - (intOf i).toNat)
      case atStart => exact ⟨0, q, gb, Ab, nb, cb, Nat.zero_le _, rfl, rfl, Lib.hid (by rw [opLs_zero]; exact HK.out), M4, O4⟩
      case round =>
        clear M4 O4 HK
        obtain ⟨y, q, gb, Ab, nb, cb, hy, rfl, rfl, HK, M, O⟩ := hrel
        by_cases hlty : y < v
        · go_wp2_with fail
          go_loopw [56, 10] (fun i qv wr => ∃ (x q : Nat) (gb : Gd) (Ab : Option Addr) (nb cb : Nat), x ≤ u ∧ i = .int .i64 x ∧ qv = .int .i64 q ∧ Hid (rowLs P Q obs k y u v x (opLs P Q obs k u v y (AL k)) = (gb, q)) ∧ LMem w #[.int .i64 a, .int .i64 b, .slice (some ⟨bl, o, none⟩) n c] w3.heap.size gb Ab nb cb wr ∧ LOne w bo P Q obs (some ⟨g5, 0, none⟩) (Q * P) co wr) (fun i _ _ => u - (intOf i).toNat)
          case atStart => exact ⟨0, q, gb, Ab, nb, cb, Nat.zero_le _, rfl, rfl, Lib.hid (by rw [rowLs_zero]; exact HK.out), M, O⟩
          case round =>
            clear M O HK
            obtain ⟨x, q, gb, Ab, nb, cb, hx, rfl, rfl, HK, M, O⟩ := hrel
            by_cases hltx : x < u
            · have hF := HCk.out x y
              have HWx := Lib.hid (fun bl o c WW h => HWo.out bl o c x y WW (by omega) (by omega) h)
              have HR1 := Lib.hid (rowLs_succ (a := P) (b := Q) (op := k) (y := y) (u := u) (v := v) (k := x) (bs := obs) (s := opLs P Q obs k u v y (AL k)))
              generalize winG P Q obs x y u v = f at *
              obtain ⟨c0, c1, c2⟩ := O.o.cell3
              go_wp2_with fail
              refine (HWx.out _ _ _ _ (rd_of_own O.own)).mono ?_
              rintro e w7 ⟨A7, n7, c7, rfl, hown7, hb7⟩
              have M1 := (M.keep hb7).keep ((Below.refl _ _).alloc (Nat.le_refl _) (.cells #[.int .i64 f.w, .int .i64 f.h, .slice A7 n7 c7] 24))
              have O1 := (O.keep hb7).keep ((Below.refl _ _).alloc (Nat.le_refl _) (.cells #[.int .i64 f.w, .int .i64 f.h, .slice A7 n7 c7] 24))
              have B1 := Blk.new w7 24 #[.int .i64 f.w, .int .i64 f.h, .slice A7 n7 c7]
              have N1 := (own_base hown7 M.bel.size).alloc (.cells #[.int .i64 f.w, .int .i64 f.h, .slice A7 n7 c7] 24)
              clear hown7 hb7 M O c0 c1 c2
              obtain ⟨c0, c1, c2⟩ := B1.cell3
              obtain ⟨d0, d1, d2⟩ := M1.b.cell3
              go_wp2_with fail
              refine (before_any f gb A7 Ab n7 c7 nb cb _ (rd_of_own N1) (rd_of_own M1.own) hF M1.chk).mono ?_
              rintro e w8 ⟨rfl, hb8⟩
              have HB : Hid (beforeG f gb = beforeG f gb) := Lib.hid rfl
              have HST := Lib.hid (show stepL f k (gb, q) = if beforeG f gb then (f, k) else (gb, q) from rfl)
              have M2 := M1.keep hb8
              have O2 := O1.keep hb8
              have B2 := B1.keep hb8
              have N2 := own_below N1 hb8
              clear M1 O1 B1 N1 hb8 c0 c1 c2 d0 d1 d2
              generalize beforeG f gb = r at *
              cases r with
              | true =>
                obtain ⟨c0, c1, c2⟩ := B2.cell3
                obtain ⟨d0, d1, d2⟩ := M2.b.cell3
                obtain ⟨f0, f1, f2⟩ := M2.b.frozen3
                have M3 := M2.put N2 hF
                have O3 := O2.put M2.b (by omega) (.int .i64 f.w) (.int .i64 f.h) (.slice A7 n7 c7)
                go_wp2_with fail
                go_roundw
                case rel => exact ⟨x + 1, k, f, A7, n7, c7, by omega, by go_num, by rfl, Lib.hid (by rw [HR1.out, HK.out, HST.out]; rfl), M3, O3⟩
                case measure => simp [intOf]; omega
              | false =>
                go_wp2_with fail
                go_roundw
                case rel => exact ⟨x + 1, q, gb, Ab, nb, cb, by omega, by go_num, by rfl, Lib.hid (by rw [HR1.out, HK.out, HST.out]; rfl), M2, O2⟩
                case measure => simp [intOf]; omega
            · have hxu : x = u := by omega
              subst hxu
              go_wp2_with fail
              go_roundw
              case rel => exact ⟨y + 1, q, gb, Ab, nb, cb, by omega, by go_num, by rfl, Lib.hid (by rw [opLs_succ]; exact HK.out), M, O⟩
              case measure => simp [intOf]; omega
        · have hyv : y = v := by omega
          subst hyv
          go_wp2_with fail
          go_roundw
          case rel => exact ⟨k + 1, q, gb, Ab, nb, cb, by omega, by go_num, by rfl, Lib.hid (by rw [HSk.out]; exact HK.out), M⟩
          case measure => simp [intOf]; omega
    · have hk16 : k = 16 := by omega
      subst hk16
      obtain ⟨c0, c1, c2⟩ := M.b.cell3
      obtain ⟨r0, r1, r2⟩ := M.z.cell3
      obtain ⟨f0, f1, f2⟩ := M.z.frozen3
      obtain ⟨q0, q1, q2⟩ := (M.z.set3 (.int .i64 gb.w) (.int .i64 gb.h) (.slice Ab nb cb)).cell3
      go_wp2_with fail
      rw [HK.out]
      refine bodyPost_ret (v := .tuple #[.agg #[.int .i64 gb.w, .int .i64 gb.h, .slice Ab nb cb], .int .i64 q, .int .i64 0]) (by simp [results, Tryd.results17, go_sem, q0, q1, q2]) rfl ?_
      exact ⟨Ab, nb, cb, rfl, own_set3 M.own M.z (by decide) _ _ _, below_set3 M.bel (by omega) _ _ _⟩

theorem leastG_ok {a b : Nat} {bs : List Bool} (h : startG ⟨a, b, bs⟩ = 0) : leastG ⟨a, b, bs⟩ = (allLs a b bs 16, 0) := by
  unfold leastG; rw [if_neg (by omega)]; simp
set_option maxHeartbeats 1000000 in
set_option maxRecDepth 100000 in
theorem least_any (g : Gd) (A : Option Addr) (n c : Nat) (w : World) (hr : Rd w A n (g.bits.map Value.bool)) (hcc : n ≤ c) :
    Calls Tryd.prog 17 #[.agg #[.int .i64 g.w, .int .i64 g.h, .slice A n c]] w (LeastRet (leastG g).1.1 ((leastG g).1.2 : Nat) (leastG g).2 w) := by
  obtain ⟨W, H, bs⟩ := g
  simp only at hr ⊢
  have hn : bs.length = n := by simpa using hr.len
  have hs : startG ⟨W, H, bs⟩ = startN W H n := startG_n hn
  by_cases hc : startN W H n = 0
  · obtain ⟨hc1, h16, h16'⟩ := startN_zero hc
    obtain ⟨a, b, rfl, rfl, ha1, ha, hbb, hb, rfl⟩ := chk_zero hc1
    obtain ⟨bl, o, rfl, _, _⟩ := hr.at_ (Nat.mul_pos hbb ha1)
    rw [leastG_ok (hs.trans hc)]
    exact least_main a b bl o c bs w ha1 hbb (by omega) (by omega) hn hc hcc hr
  · have hcb : (startN W H n != 0) = true := by simpa using hc
    have hv : leastG ⟨W, H, bs⟩ = ((Gd.zero, 0), startN W H n) := by unfold leastG; rw [hs, if_pos hc]
    have S0 := (((St.start w).box #[.int .i64 W, .int .i64 H, .slice A n c] 24).box #[.int .i64 0, .int .i64 0, .slice none 0 0] 24).box #[.int .i64 W, .int .i64 H, .slice A n c] 24
    simp only [size_alloc1, List.nil_append, List.cons_append] at S0
    obtain ⟨c0, c1, c2⟩ := (S0.blk 0 rfl).cell3
    rw [hv]
    clear hs hc hv hn hr
    go_enter Tryd.func17, Tryd.ntmps17
    go_wp2_with fail
    refine (check1_any _ _ _ _ _ _ _ _ (S0.blk 2 rfl)).mono ?_
    rintro e w1 ⟨rfl, hb1⟩
    have S1 := S0.keep hb1
    clear c0 c1 c2
    have hz := S1.blk 1 rfl
    have hB := S1.below
    obtain ⟨r0, r1, r2⟩ := hz.cell3
    obtain ⟨f0, f1, f2⟩ := hz.frozen3
    obtain ⟨q0, q1, q2⟩ := (hz.set3 (.int .i64 0) (.int .i64 0) (.slice none 0 0)).cell3
    go_wp2_with fail
    refine bodyPost_ret (v := .tuple #[.agg #[.int .i64 0, .int .i64 0, .slice none 0 0], .int .i64 0, .int .i64 (startN W H n)]) (by simp [results, Tryd.results17, go_sem, q0, q1, q2]) rfl ?_
    exact ⟨none, 0, 0, rfl, World.ownsRow_nil _ _ _ _, below_set3 hB (by omega) _ _ _⟩
end Go.Proofs.YtliibficmdomjaaDoor
