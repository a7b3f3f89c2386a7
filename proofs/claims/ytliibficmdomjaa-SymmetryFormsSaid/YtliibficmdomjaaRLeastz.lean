/- raddleref07.Least: the least form of any grid, as the program finds it. -/
import Derived.Test.YtliibficmdomjaaLeastRz
import Derived.Test.YtliibficmdomjaaLeastz
import Derived.Test.YtliibficmdomjaaRBefore7z
import Derived.Test.YtliibficmdomjaaRAppliedz
import Derived.Test.YtliibficmdomjaaRRectz
import Derived.Test.YtliibficmdomjaaRShiftDz
import Derived.Test.YtliibficmdomjaaRPartDz
namespace Go.Proofs.Ytliibficmdomjaa
open Go.RowKit

/-- What stands in memory while the reference seeks the least form. -/
structure RMem (w : World) (G : Array Value) (bb : Nat) (gb : Gd) (Ab : Option Addr) (nb cb : Nat) (wr : World) : Prop where
  bel : Below w.heap.size w wr
  g : Blk wr w.heap.size 24 G
  z : Blk wr (w.heap.size + 1) 24 #[.int .i64 0, .int .i64 0, .slice none 0 0]
  b : Blk wr bb 24 #[.int .i64 gb.w, .int .i64 gb.h, .slice Ab nb cb]
  own : wr.ownsRow w.heap.size 4 1 (.slice Ab nb cb) nb (gb.bits.map Value.bool)
  far : w.heap.size + 1 < bb
section
variable {w wr w2 : World} {G : Array Value} {bb : Nat} {gb : Gd} {Ab : Option Addr} {nb cb : Nat}
theorem RMem.keep (h : RMem w G bb gb Ab nb cb wr) (hb : Below wr.heap.size wr w2) : RMem w G bb gb Ab nb cb w2 :=
  ⟨below_then h.bel hb, h.g.keep hb, h.z.keep hb, h.b.keep hb, own_below h.own hb, h.far⟩
theorem RMem.put {f : Gd} {Af : Option Addr} {nf cf : Nat} (h : RMem w G bb gb Ab nb cb wr) (hf : wr.ownsRow w.heap.size 4 1 (.slice Af nf cf) nf (f.bits.map Value.bool)) :
    RMem w G bb f Af nf cf (((wr.setCell ⟨bb, 0, none⟩ (.int .i64 f.w)).setCell ⟨bb, 1, none⟩ (.int .i64 f.h)).setCell ⟨bb, 2, none⟩ (.slice Af nf cf)) := by
  have k := h.far
  refine ⟨below_set3 h.bel (by omega) _ _ _, ?_, ?_, h.b.set3 _ _ _, own_set3 hf h.b (by decide) _ _ _, h.far⟩
  · exact ((h.g.far (p := ⟨bb, 0, none⟩) (by simp; omega) _).far (p := ⟨bb, 1, none⟩) (by simp; omega) _).far (p := ⟨bb, 2, none⟩) (by simp; omega) _
  · exact ((h.z.far (p := ⟨bb, 0, none⟩) (by simp; omega) _).far (p := ⟨bb, 1, none⟩) (by simp; omega) _).far (p := ⟨bb, 2, none⟩) (by simp; omega) _
end
theorem app_is {a b : Nat} {bs : List Bool} (ha1 : 1 ≤ a) (hb1 : 1 ≤ b) (ha : a ≤ 64) (hb : b ≤ 64) (k : Nat) : ∃ (P Q : Nat) (obs : List Bool), appG a b bs k = ⟨P, Q, obs⟩ ∧ 1 ≤ P ∧ 1 ≤ Q ∧ P ≤ 64 ∧ Q ≤ 64 ∧ obs.length = Q * P ∧ chkG ⟨(P : Int), (Q : Int), obs⟩ = 0 := by
  have hc := app_chk (bs := bs) (m := k) ha1 hb1 ha hb
  obtain ⟨P, Q, e1, e2, q1, q2, q3, q4, q5⟩ := chkG_sides hc
  generalize appG a b bs k = r at *
  obtain ⟨X, Y, l⟩ := r
  simp only at e1 e2 q5
  subst e1 e2
  exact ⟨P, Q, l, rfl, q1, q3, q2, q4, q5, hc⟩
/-- A part of a moved plane, called. -/
theorem part_win {a b x y u v : Nat} {bs : List Bool} (ha1 : 1 ≤ a) (hb1 : 1 ≤ b) (ha : a ≤ 64) (hb : b ≤ 64) (hu1 : 1 ≤ u) (hv1 : 1 ≤ v) (hu : u ≤ a) (hv : v ≤ b) (A : Option Addr) (n c : Nat) (w : World)
    (hr : Rd w A n ((Pl.tab a b fun i k => bs.getD ((((k : Int) - (-(y : Int))) % (b : Int)).toNat * a + (((i : Int) - (-(x : Int))) % (a : Int)).toNat) false).map Value.bool)) :
    Calls Try.prog 36 #[.agg #[.int .i64 a, .int .i64 b, .slice A n c], .int .i64 0, .int .i64 0, .int .i64 u, .int .i64 v] w (RetG (winG a b bs x y u v, 0) w) := by
  have h := rpart_any (tabD a b fun i k => bs.getD ((((k : Int) - (-(y : Int))) % (b : Int)).toNat * a + (((i : Int) - (-(x : Int))) % (a : Int)).toNat) false) 0 0 u v A n c w hr
  rw [shift_win ha1 hb1 ha hb hu1 hv1 hu hv] at h
  exact h
theorem rec_dv {a b : Nat} {bs : List Bool} (ha1 : 1 ≤ a) (hb1 : 1 ≤ b) : recU a b bs ≤ a ∧ recV a b bs ≤ b := by
  obtain ⟨_, _, h3, h4⟩ := rec_pos (bs := bs) ha1 hb1
  exact ⟨Nat.le_of_dvd ha1 h3, Nat.le_of_dvd hb1 h4⟩

set_option maxHeartbeats 8000000 in
set_option maxRecDepth 100000 in
theorem rleast_main (a b bl o c : Nat) (bs : List Bool) (w : World) (ha1 : 1 ≤ a) (hb1 : 1 ≤ b) (ha : a ≤ 16) (hb : b ≤ 16) (hl : bs.length = b * a) (hs : startN (a : Int) (b : Int) (b * a) = 0)
    (hr : Rd w (some ⟨bl, o, none⟩) (b * a) (bs.map Value.bool)) :
    Calls Try.prog 16 #[.agg #[.int .i64 a, .int .i64 b, .slice (some ⟨bl, o, none⟩) (b * a) c]] w (LeastRet (allLs a b bs 16).1 ((allLs a b bs 16).2 : Nat) 0 w) := by
  have hck : chkG ⟨a, b, bs⟩ = 0 := by have := (startN_zero hs).1; unfold chkG; rw [hl]; exact this
  have hcb : (startN (a : Int) (b : Int) (b * a) != 0) = false := by simpa using hs
  have HRd := Lib.hid (fun wz (hz : Below w.heap.size w wz) => hr.below hz)
  have HSt := Lib.hid (fun W => start7_any (a : Int) (b : Int) (some ⟨bl, o, none⟩) (b * a) c W)
  have HA := Lib.hid (fun k WW (hk : k < 16) h => rapplied_any a b k bs (some ⟨bl, o, none⟩) c WW ha1 hb1 (by omega) (by omega) hk h)
  have HO := Lib.hid (fun k => app_is (bs := bs) ha1 hb1 (show a ≤ 64 by omega) (show b ≤ 64 by omega) k)
  have HZ := Lib.hid (allR_zero (a := a) (b := b) (bs := bs))
  have HS := Lib.hid (fun k P Q obs h => allR_succ (a := a) (b := b) (k := k) (P := P) (Q := Q) (bs := bs) (obs := obs) h)
  have HF := Lib.hid (allRs_is hck)
  have S0 := (((St.start w).addRd hr).box #[.int .i64 a, .int .i64 b, .slice (some ⟨bl, o, none⟩) (b * a) c] 24).box #[.int .i64 0, .int .i64 0, .slice none 0 0] 24
  simp only [size_alloc1, List.nil_append, List.cons_append] at S0
  clear hr hck hl
  rw [hs] at HSt hcb
  clear hs hcb
  generalize allR a b bs = AR at *
  generalize allLs a b bs 16 = AL at *
  generalize appG a b bs = OD at *
  generalize b * a = n at *
  obtain ⟨c0, c1, c2⟩ := (S0.blk 1 rfl).cell3
  go_enter Try.func16, Try.ntmps16
  go_wp2_with fail
  refine (HSt.out _).mono ?_
  rintro e w1 ⟨rfl, hb1'⟩
  have S1 := (S0.keep hb1').box #[.int .i64 0, .int .i64 0, .slice none 0 0] 24
  simp only [List.nil_append, List.cons_append] at S1
  have hsg := (S0.keep hb1').blk 2 rfl |>.lt
  have M0 : RMem w #[.int .i64 a, .int .i64 b, .slice (some ⟨bl, o, none⟩) n c] w1.heap.size (bOf none) none 0 0 (w1.alloc (.cells #[.int .i64 0, .int .i64 0, .slice none 0 0] 24)) :=
    ⟨S1.below, S1.blk 1 rfl, S1.blk 2 rfl, S1.blk 3 rfl, World.ownsRow_nil _ _ _ _, by omega⟩
  clear c0 c1 c2 S1 S0 hb1'
  go_wp2_with fail
  go_loopw [7, 6] (fun i qv wr => ∃ (k : Nat) (s : Option (Gd × Nat)) (Ab : Option Addr) (nb cb : Nat), k ≤ 16 ∧ i = .int .i64 k ∧ qv = .int .i64 (iOf s) ∧ Hid (AR k = s) ∧ Hid (∀ t, s = some t → chkG t.1 = 0) ∧ RMem w #[.int .i64 a, .int .i64 b, .slice (some ⟨bl, o, none⟩) n c] w1.heap.size (bOf s) Ab nb cb wr) (fun i _ _ => 16 - (intOf i).toNat)
  case atStart => exact ⟨0, none, none, 0, 0, Nat.zero_le _, rfl, rfl, HZ, Lib.hid (fun t h => by cases h), M0⟩
  case round =>
    clear M0
    obtain ⟨k, s, Ab, nb, cb, hk, rfl, rfl, HK, HC, M⟩ := hrel
    by_cases hlt : k < 16
    · obtain ⟨P, Q, obs, hod, P1, Q1, P2, Q2, hlo, hco⟩ := HO.out k
      obtain ⟨v1, v2, v3, v4⟩ := rec_le (bs := obs) P1 Q1 P2 Q2
      obtain ⟨v5, v6⟩ := rec_dv (bs := obs) P1 Q1
      have HAk := Lib.hid (fun WW h => HA.out k WW hlt h)
      rw [hod] at HAk
      have HRo := Lib.hid (fun A n c WW h => rrect_any ⟨P, Q, obs⟩ A n c WW h)
      rw [rect_rec hco] at HRo
      have HSh := Lib.hid (fun (x y : Nat) A c WW h => shifted_any P Q (-(x : Int)) (-(y : Int)) obs A c WW P1 Q1 P2 Q2 h)
      have HPw := Lib.hid (fun (x y : Nat) A n c WW h => part_win (a := P) (b := Q) (x := x) (y := y) (u := recU P Q obs) (v := recV P Q obs) (bs := obs) P1 Q1 P2 Q2 v1 v2 v5 v6 A n c WW h)
      have HCk := Lib.hid (fun x y => win_ck (bs := obs) P1 Q1 P2 Q2 x y)
      have HSk := Lib.hid (HS.out k P Q obs hod)
      have hnP : 1 ≤ Q * P := Nat.mul_pos Q1 P1
      clear hco hod
      generalize recU P Q obs = u at *
      generalize recV P Q obs = v at *
      obtain ⟨c0, c1, c2⟩ := M.g.cell3
      go_wp2_with fail
      refine (HAk.out _ (HRd.out _ M.bel)).mono ?_
      rintro e w5 ⟨Ao, no, co, rfl, hown5, hb5⟩
      simp only at hown5 ⊢
      have M2 := M.keep hb5
      obtain rfl : no = Q * P := by have h1 := hown5.1; simp at h1; omega
      obtain ⟨g5, rfl, hg5, _, hco5⟩ := own_form hown5 (by omega)
      have M3 := M2.keep ((Below.refl _ _).alloc (Nat.le_refl _) (.cells #[.int .i64 P, .int .i64 Q, .slice (some ⟨g5, 0, none⟩) (Q * P) co] 24))
      have O3 : LOne w w5.heap.size P Q obs (some ⟨g5, 0, none⟩) (Q * P) co (w5.alloc (.cells #[.int .i64 P, .int .i64 Q, .slice (some ⟨g5, 0, none⟩) (Q * P) co] 24)) :=
        ⟨Blk.new _ _ _, (own_base hown5 M.bel.size).alloc _⟩
      have hne := M2.b.lt
      clear M M2 hown5 hb5 c0 c1 c2
      obtain ⟨c0, c1, c2⟩ := O3.o.cell3
      generalize hbo : w5.heap.size = bo at *
      go_wp2_with fail
      refine (HRo.out _ _ _ _ (rd_of_own O3.own)).mono ?_
      rintro e w6 ⟨rfl, hb6⟩
      have M4 := M3.keep hb6
      have O4 := O3.keep hb6
      clear M3 O3 c0 c1 c2 hb6
      go_wp2_with fail
      go_loopw [12, 6] (fun i qv wr => ∃ (x : Nat) (s : Option (Gd × Nat)) (Ab : Option Addr) (nb cb : Nat), x ≤ u ∧ i = .int .i64 x ∧ qv = .int .i64 (iOf s) ∧ Hid (opR P Q obs k u v x (AR k) = s) ∧ Hid (∀ t, s = some t → chkG t.1 = 0) ∧ RMem w #[.int .i64 a, .int .i64 b, .slice (some ⟨bl, o, none⟩) n c] w1.heap.size (bOf s) Ab nb cb wr ∧ LOne w bo P Q obs (some ⟨g5, 0, none⟩) (Q * P) co wr) (fun i _ _ => u - (intOf i).toNat)
      case atStart => exact ⟨0, s, Ab, nb, cb, Nat.zero_le _, rfl, rfl, Lib.hid (by rw [opR_zero]; exact HK.out), HC, M4, O4⟩
      case round =>
        clear M4 O4 HK HC
        obtain ⟨x, s, Ab, nb, cb, hx, rfl, rfl, HK, HC, M, O⟩ := hrel
        by_cases hltx : x < u
        · go_wp2_with fail
          go_loopw [13, 6] (fun i qv wr => ∃ (y : Nat) (s : Option (Gd × Nat)) (Ab : Option Addr) (nb cb : Nat), y ≤ v ∧ i = .int .i64 y ∧ qv = .int .i64 (iOf s) ∧ Hid (colR P Q obs k x u v y (opR P Q obs k u v x (AR k)) = s) ∧ Hid (∀ t, s = some t → chkG t.1 = 0) ∧ RMem w #[.int .i64 a, .int .i64 b, .slice (some ⟨bl, o, none⟩) n c] w1.heap.size (bOf s) Ab nb cb wr ∧ LOne w bo P Q obs (some ⟨g5, 0, none⟩) (Q * P) co wr) (fun i _ _ => v - (intOf i).toNat)
          case atStart => exact ⟨0, s, Ab, nb, cb, Nat.zero_le _, rfl, rfl, Lib.hid (by rw [colR_zero]; exact HK.out), HC, M, O⟩
          case round =>
            clear M O HK HC
            obtain ⟨y, s, Ab, nb, cb, hy, rfl, rfl, HK, HC, M, O⟩ := hrel
            by_cases hlty : y < v
            · have hF := HCk.out x y
              have HShx := Lib.hid (fun A c WW h => HSh.out x y A c WW h)
              have HPwx := Lib.hid (fun A n c WW h => HPw.out x y A n c WW h)
              have HR1 := Lib.hid (colR_succ (a := P) (b := Q) (op := k) (x := x) (u := u) (v := v) (k := y) (bs := obs) (s := opR P Q obs k u v x (AR k)))
              have hwx : IntKind.i64.wrap (-(x : Int)) = -(x : Int) := IntWalk.i64_in _ (by omega)
              have hwy : IntKind.i64.wrap (-(y : Int)) = -(y : Int) := IntWalk.i64_in _ (by omega)
              generalize winG P Q obs x y u v = f at *
              obtain ⟨c0, c1, c2⟩ := O.o.cell3
              go_wp2_with fail
              refine (HShx.out _ _ _ (rd_of_own O.own)).mono ?_
              rintro e w6 ⟨A6, n6, c6, rfl, hown6, hb6⟩
              have M' := M.keep hb6
              have O' := O.keep hb6
              clear M O c0 c1 c2
              go_wp2_with fail
              refine (HPwx.out _ _ _ _ (rd_of_own hown6)).mono ?_
              rintro e w7 ⟨A7, n7, c7, rfl, hown7, hb7⟩
              simp only at hown7 ⊢
              have M1 := (M'.keep hb7).keep ((Below.refl _ _).alloc (Nat.le_refl _) (.cells #[.int .i64 f.w, .int .i64 f.h, .slice A7 n7 c7] 24))
              have O1 := (O'.keep hb7).keep ((Below.refl _ _).alloc (Nat.le_refl _) (.cells #[.int .i64 f.w, .int .i64 f.h, .slice A7 n7 c7] 24))
              have B1 := Blk.new w7 24 #[.int .i64 f.w, .int .i64 f.h, .slice A7 n7 c7]
              have N1 := (own_base hown7 M'.bel.size).alloc (.cells #[.int .i64 f.w, .int .i64 f.h, .slice A7 n7 c7] 24)
              clear hown6 hown7 hb6 hb7 M' O'
              obtain ⟨c0, c1, c2⟩ := B1.cell3
              obtain ⟨d0, d1, d2⟩ := M1.b.cell3
              cases s with
              | none =>
                simp only [iOf, bOf] at *
                obtain ⟨f0, f1, f2⟩ := M1.b.frozen3
                have hne2 := O1.o.lt
                have M3 := M1.put N1
                have O3 := O1.put M1.b (by omega) (.int .i64 f.w) (.int .i64 f.h) (.slice A7 n7 c7)
                go_wp2_with fail
                go_roundw
                case rel => exact ⟨y + 1, some (f, k), A7, n7, c7, by omega, by go_num, by rfl, Lib.hid (by rw [HR1.out, HK.out]; rfl), Lib.hid (fun t h => by cases h; exact hF), M3, O3⟩
                case measure => simp [intOf]; omega
              | some t =>
                obtain ⟨gb, q⟩ := t
                simp only [iOf, bOf] at *
                have hcb2 : chkG gb = 0 := HC.out _ rfl
                go_wp2_with fail
                refine (rbefore_any f gb A7 Ab n7 c7 nb cb _ (rd_of_own N1) (rd_of_own M1.own) hF hcb2).mono ?_
                rintro e w8 ⟨rfl, hb8⟩
                have HST := Lib.hid (show stepR f k (some (gb, q)) = some (if beforeG f gb then (f, k) else (gb, q)) from rfl)
                have M2 := M1.keep hb8
                have O2 := O1.keep hb8
                have B2 := B1.keep hb8
                have N2 := own_below N1 hb8
                clear M1 O1 B1 N1 hb8 c0 c1 c2 d0 d1 d2
                generalize beforeG f gb = r at *
                cases r with
                | true =>
                  obtain ⟨c0, c1, c2⟩ := B2.cell3
                  obtain ⟨d0, d1, d2⟩ := M2.b.cell3
                  obtain ⟨f0, f1, f2⟩ := M2.b.frozen3
                  have M3 := M2.put N2
                  have O3 := O2.put M2.b (by omega) (.int .i64 f.w) (.int .i64 f.h) (.slice A7 n7 c7)
                  go_wp2_with fail
                  go_roundw
                  case rel => exact ⟨y + 1, some (f, k), A7, n7, c7, by omega, by go_num, by rfl, Lib.hid (by rw [HR1.out, HK.out, HST.out]; rfl), Lib.hid (fun t h => by cases h; exact hF), M3, O3⟩
                  case measure => simp [intOf]; omega
                | false =>
                  go_wp2_with fail
                  go_roundw
                  case rel => exact ⟨y + 1, some (gb, q), Ab, nb, cb, by omega, by go_num, by rfl, Lib.hid (by rw [HR1.out, HK.out, HST.out]; rfl), HC, M2, O2⟩
                  case measure => simp [intOf]; omega
            · have hyv : y = v := by omega
              subst hyv
              go_wp2_with fail
              go_roundw
              case rel => exact ⟨x + 1, s, Ab, nb, cb, by omega, by go_num, by rfl, Lib.hid (by rw [opR_succ]; exact HK.out), HC, M, O⟩
              case measure => simp [intOf]; omega
        · have hxu : x = u := by omega
          subst hxu
          go_wp2_with fail
          go_roundw
          case rel => exact ⟨k + 1, s, Ab, nb, cb, by omega, by go_num, by rfl, Lib.hid (by rw [HSk.out]; exact HK.out), HC, M⟩
          case measure => simp [intOf]; omega
    · have hk16 : k = 16 := by omega
      subst hk16
      have hsF : s = some AL := by rw [← HK.out]; exact HF.out
      subst hsF
      obtain ⟨gb, q⟩ := AL
      simp only [iOf, bOf] at *
      obtain ⟨c0, c1, c2⟩ := M.b.cell3
      obtain ⟨r0, r1, r2⟩ := M.z.cell3
      obtain ⟨f0, f1, f2⟩ := M.z.frozen3
      obtain ⟨q0, q1, q2⟩ := (M.z.set3 (.int .i64 gb.w) (.int .i64 gb.h) (.slice Ab nb cb)).cell3
      go_wp2_with fail
      refine bodyPost_ret (v := .tuple #[.agg #[.int .i64 gb.w, .int .i64 gb.h, .slice Ab nb cb], .int .i64 q, .int .i64 0]) (by simp [results, Try.results16, go_sem, q0, q1, q2]) rfl ?_
      exact ⟨Ab, nb, cb, rfl, own_set3 M.own M.z (by decide) _ _ _, below_set3 M.bel (by omega) _ _ _⟩
end Go.Proofs.Ytliibficmdomjaa
