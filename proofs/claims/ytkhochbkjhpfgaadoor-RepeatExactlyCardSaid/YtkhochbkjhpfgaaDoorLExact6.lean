/- The law RepeatExactly, walked: it answers true and turns nothing that was there, for any grid and step. -/
import Derived.Test.YtkhochbkjhpfgaaDoorAlive6
import Derived.Test.YtkhochbkjhpfgaaDoorExactP
import Derived.Test.YtkhochbkjhpfgaaDoorIn6
import Derived.Test.YtkhochbkjhpfgaaDoorIs
import Derived.Test.YtkhochbkjhpfgaaDoorValid6
namespace Go.Proofs.YtkhochbkjhpfgaaDoor
open Go.RowKit

theorem in_to {A B C dx dy : Int} {b : Bool} (h : chkL A B C = 0) (hb : inV A B C dx dy = b) (X Y : Int) (hX : X = dx) (hY : Y = dy) (hy1 : -9223372036854775808 ≤ dy) (hy2 : dy ≤ 9223372036854775807) (w : World) :
    Calls Tryd.prog 11 #[.agg #[.int .i64 A, .int .i64 B, .int .i64 C], .int .i64 X, .int .i64 Y] w fun e w' => e = .returned (.tuple #[.bool b, .int .i64 0]) ∧ Below w.heap.size w w' := by
  subst hX hY
  have := in_any A B C X Y w hy1 hy2
  rw [inL_ok h, hb] at this
  exact this
theorem chkL_ok {A B C : Int} (h1 : 1 ≤ A) (h2 : A ≤ 64) (h3 : 1 ≤ C) (h4 : C ≤ 64) (h5 : 0 ≤ B) (h6 : B < A) : chkL A B C = 0 := by unfold chkL; rw [if_neg (by omega)]
theorem cell_at {w : World} {A0 : Option Addr} {n k : Nat} {bs : List Bool} (h : Rd w A0 n (bs.map Value.bool)) (hk : k < n) : ∃ bl o, A0 = some ⟨bl, o, none⟩ ∧ w.cell? ⟨bl, o + k, none⟩ = some (.bool (bs.getD k false)) := by
  have hl : bs.length = n := by simpa using h.len
  obtain ⟨bl, o, hA, _, hc⟩ := h.at_ (by omega)
  exact ⟨bl, o, hA, hc k _ (by rw [List.getElem?_map, List.getElem?_eq_getElem (by omega)]; simp [List.getD, show k < bs.length by omega])⟩

set_option maxHeartbeats 4000000 in
set_option maxRecDepth 100000 in
theorem exact_main (a b n c : Nat) (bs : List Bool) (dx dy : Int) (bl o : Nat) (w : World) (ha1 : 1 ≤ a) (hb1 : 1 ≤ b) (ha : a ≤ 64) (hb : b ≤ 64) (hn : n = b * a) (hn1 : n ≤ 100) (hc : n ≤ c) (hck : chkG ⟨a, b, bs⟩ = 0)
    (hr : Rd w (some ⟨bl, o, none⟩) n (bs.map Value.bool)) (hx1 : -1000000000 ≤ dx) (hx2 : dx ≤ 1000000000) (hy1 : -1000000000 ≤ dy) (hy2 : dy ≤ 1000000000) :
    Calls Tryd.prog 4 #[.agg #[.int .i64 a, .int .i64 b, .slice (some ⟨bl, o, none⟩) n c], .int .i64 dx, .int .i64 dy] w fun e w' => e = .returned (.bool true) ∧ Below w.heap.size w w' := by
  have hl : bs.length = n := by simpa using hr.len
  have hL := lat_is (bs := bs) ha1 hb1
  have hO := ofG_ok hck
  have HV := Lib.hid (fun A c W h => valid6_any ⟨a, b, bs⟩ A n c W h)
  have hv : valid6B ⟨a, b, bs⟩ = true := by unfold valid6B; rw [decide_eq_true_eq]; exact ⟨by show bs.length ≤ 100; omega, hck⟩
  rw [hv] at HV
  have HOf := Lib.hid (fun A c W h hc => of_any ⟨a, b, bs⟩ A n c W h hc)
  rw [hO] at HOf
  have HIs := Lib.hid (fun A c W h hc => is_any ⟨a, b, bs⟩ dx dy A n c W h hc)
  rw [isG_ok hck] at HIs
  have hRV := fun x y => lat_inV ha1 hb1 hL x y
  obtain ⟨lw1, lw2⟩ := lat_w ha1 hb1 hL
  obtain ⟨lh1, lh2⟩ := lat_h ha1 hb1 hL
  have q1 := hL.a1
  have q2 := hL.a2
  have q3 := hL.b1
  have q4 := hL.c1
  have q5 := hL.c2
  generalize latA a b bs = A at *
  generalize latB a b bs = B at *
  generalize latC a b bs = C at *
  have hCL : chkL (A : Int) (B : Int) (C : Int) = 0 := chkL_ok (by omega) (by omega) (by omega) (by omega) (by omega) (by omega)
  obtain ⟨r, hr0⟩ : ∃ r, repB a b bs dx dy = r := ⟨_, rfl⟩
  have HIn := Lib.hid (fun X Y hX hY W => in_to hCL ((hRV dx dy).symm.trans hr0) X Y hX hY (by omega) (by omega) W)
  have HInN := Lib.hid (fun (x y : Nat) (hy : y ≤ 64) W => in_to hCL (hRV (x : Int) (y : Int)).symm (x : Int) (y : Int) rfl rfl (by omega) (by omega) W)
  rw [hr0] at HIs
  have HCh := Lib.hid (fun W => lcheck_to (A : Int) (B : Int) (C : Int) W hCL)
  have HE := Lib.hid (fun x y u v (hu : u < a) (hv : v < b) h => rep_E_no (x := x) (y := y) (bs := bs) hu hv h)
  have HA := Lib.hid (fun x y h => (rep_E (a := a) (b := b) (x := x) (y := y) (bs := bs)).2 h)
  have n1 : ¬ (A : Int) = 0 := by omega
  have n2 : ¬ (C : Int) = 0 := by omega
  have n3 : ¬ A = 0 := by omega
  have n4 : ¬ C = 0 := by omega
  have m1 : ¬ (a : Int) = 0 := by omega
  have m2 : ¬ (b : Int) = 0 := by omega
  have m3 : ¬ a = 0 := by omega
  have m4 : ¬ b = 0 := by omega
  have S0 := ((St.start w).addRd hr).box #[.int .i64 a, .int .i64 b, .slice (some ⟨bl, o, none⟩) n c] 33
  simp only [List.nil_append, List.cons_append] at S0
  have HL := Lib.hid hl
  have HN := Lib.hid hn
  simp only at HV HOf HIs
  clear hr hl hn hv hO hck hL hRV hr0 hCL
  obtain ⟨c0, c1, c2⟩ := (S0.blk 1 rfl).cell3
  go_enter Tryd.func4, Tryd.ntmps4
  go_wp2_with fail
  refine (HV.out _ _ _ HL.out).mono ?_
  rintro e w1 ⟨rfl, hb1'⟩
  have S1 := S0.keep hb1'
  clear S0 c0 c1 c2
  obtain ⟨c0, c1, c2⟩ := (S1.blk 1 rfl).cell3
  go_wp2_with fail
  refine (HOf.out _ _ _ (S1.rd 0 rfl) hc).mono ?_
  rintro e w2 ⟨rfl, hb2⟩
  have S2 := (S1.keep hb2).box #[.int .i64 A, .int .i64 B, .int .i64 C] 23
  simp only [List.nil_append, List.cons_append] at S2
  clear S1 c0 c1 c2
  obtain ⟨c0, c1, c2⟩ := (S2.blk 1 rfl).cell3
  go_wp2_with fail
  refine (HIs.out _ _ _ (S2.rd 0 rfl) hc).mono ?_
  rintro e w3 ⟨rfl, hb3⟩
  have S3 := S2.keep hb3
  clear S2 c0 c1 c2
  obtain ⟨d0, d1, d2⟩ := (S3.blk 2 rfl).cell3
  go_wp2_with fail
  refine (HIn.out _ _ rfl rfl _).mono ?_
  rintro e w4 ⟨rfl, hb4⟩
  have S4 := S3.keep hb4
  clear S3 d0 d1 d2
  obtain ⟨d0, d1, d2⟩ := (S4.blk 2 rfl).cell3
  go_wp2_with fail
  refine (HCh.out _).mono ?_
  rintro e w5 ⟨rfl, hb5⟩
  have S5 := S4.keep hb5
  clear S4 d0 d1 d2
  obtain ⟨c0, c1, c2⟩ := (S5.blk 1 rfl).cell3
  obtain ⟨d0, d1, d2⟩ := (S5.blk 2 rfl).cell3
  go_wp2_with fail
  have HS := Lib.hid S5
  clear S5 c0 c1 c2 d0 d1 d2
  go_loopw [13] (fun i wr => ∃ x : Nat, x ≤ a ∧ i = .int .i64 x ∧ Below w5.heap.size w5 wr) (fun i _ => a - (intOf i).toNat)
  case atStart => exact ⟨0, Nat.zero_le _, rfl, Below.refl _ _⟩
  case round =>
    obtain ⟨x, hx, rfl, hB⟩ := hrel
    have S := HS.out.keep hB
    obtain ⟨c0, c1, c2⟩ := (S.blk 1 rfl).cell3
    by_cases hltx : x < a
    · go_wp2_with fail
      go_loopw [14] (fun i wr => ∃ y : Nat, y ≤ b ∧ i = .int .i64 y ∧ Below w5.heap.size w5 wr) (fun i _ => b - (intOf i).toNat)
      case atStart => exact ⟨0, Nat.zero_le _, rfl, hB⟩
      case round =>
        clear S hB c0 c1 c2
        obtain ⟨y, hy, rfl, hB⟩ := hrel
        have S := HS.out.keep hB
        obtain ⟨c0, c1, c2⟩ := (S.blk 1 rfl).cell3
        obtain ⟨d0, d1, d2⟩ := (S.blk 2 rfl).cell3
        by_cases hlty : y < b
        · have HInY := Lib.hid (fun W => HInN.out x y (by omega) W)
          have HEy := Lib.hid (fun u v hu hv h => HE.out x y u v hu hv h)
          have HAy := Lib.hid (HA.out x y)
          obtain ⟨R, hR⟩ : ∃ R, repB a b bs (x : Int) (y : Int) = R := ⟨_, rfl⟩
          rw [hR] at HInY HEy HAy
          clear hR
          go_wp2_with fail
          refine (HInY.out _).mono ?_
          rintro e w6 ⟨rfl, hb6⟩
          have hB6 := below_then hB hb6
          clear S hB c0 c1 c2 d0 d1 d2
          go_wp2_with fail
          go_loopw [18, 17] (fun i sm wr => ∃ (u : Nat) (s : Bool), u ≤ a ∧ i = .int .i64 u ∧ sm = .bool s ∧ (s = true → ∀ u' v, u' < u → v < b → eqE a b bs x y u' v = true) ∧ (s = false → R = false) ∧ Below w5.heap.size w5 wr) (fun i _ _ => a - (intOf i).toNat)
          case atStart => exact ⟨0, true, Nat.zero_le _, rfl, rfl, fun _ _ _ h => absurd h (by omega), (fun h => by cases h), hB6⟩
          case round =>
            clear hB6
            obtain ⟨u, s, hu, rfl, rfl, hs1, hs2, hB⟩ := hrel
            have S := HS.out.keep hB
            obtain ⟨c0, c1, c2⟩ := (S.blk 1 rfl).cell3
            have HS1 := Lib.hid hs1
            have HS2 := Lib.hid hs2
            clear hs1 hs2
            cases s with
            | false =>
              have hRf := HS2.out (by trivial)
              subst hRf
              by_cases hltu : u < a
              · go_wp2_with fail
                go_roundw
                case rel => exact ⟨y + 1, by omega, by go_num, hB⟩
                case measure => simp [intOf]; omega
              · go_wp2_with fail
                go_roundw
                case rel => exact ⟨y + 1, by omega, by go_num, hB⟩
                case measure => simp [intOf]; omega
            | true =>
              by_cases hltu : u < a
              · go_wp2_with fail
                go_loopw [19, 17] (fun i sm wr => ∃ (v : Nat) (s : Bool), v ≤ b ∧ i = .int .i64 v ∧ sm = .bool s ∧ (s = true → ∀ v', v' < v → eqE a b bs x y u v' = true) ∧ (s = false → R = false) ∧ Below w5.heap.size w5 wr) (fun i _ _ => b - (intOf i).toNat)
                case atStart => exact ⟨0, true, Nat.zero_le _, rfl, rfl, fun _ _ h => absurd h (by omega), (fun h => by cases h), hB⟩
                case round =>
                  clear S hB c0 c1 c2
                  obtain ⟨v, s, hv, rfl, rfl, ht1, ht2, hB⟩ := hrel
                  have S := HS.out.keep hB
                  obtain ⟨c0, c1, c2⟩ := (S.blk 1 rfl).cell3
                  have HT1 := Lib.hid ht1
                  have HT2 := Lib.hid ht2
                  clear ht1 ht2
                  cases s with
                  | false =>
                    by_cases hltv : v < b
                    · go_wp2_with fail
                      go_roundw
                      case rel => exact ⟨u + 1, false, by omega, by go_num, rfl, (fun h => by cases h), fun _ => HT2.out (by trivial), hB⟩
                      case measure => simp [intOf]; omega
                    · go_wp2_with fail
                      go_roundw
                      case rel => exact ⟨u + 1, false, by omega, by go_num, rfl, (fun h => by cases h), fun _ => HT2.out (by trivial), hB⟩
                      case measure => simp [intOf]; omega
                  | true =>
                    by_cases hltv : v < b
                    · have hz : (v + y) % b < b := Nat.mod_lt _ (by omega)
                      have htt : (u + x) % a < a := Nat.mod_lt _ (by omega)
                      have i1 := Pl.cell_lt (w := a) (h := b) hltu hltv
                      have i2 := Pl.cell_lt (w := a) (h := b) htt hz
                      rw [← HN.out] at i1 i2
                      obtain ⟨bl1, o1, hA1, g1⟩ := cell_at (S.rd 0 rfl) i1
                      obtain ⟨bl2, o2, hA2, g2⟩ := cell_at (S.rd 0 rfl) i2
                      injection hA1 with hA1
                      injection hA1 with hA1 hA1'
                      injection hA2 with hA2
                      injection hA2 with hA2 hA2'
                      subst hA1 hA1' hA2 hA2'
                      have HV1 : Hid (eqE a b bs x y u v = (bs.getD (v * a + u) false == bs.getD ((v + y) % b * a + (u + x) % a) false)) := Lib.hid rfl
                      have e1 : (v : Int) * (a : Int) = ((v * a : Nat) : Int) := (Int.natCast_mul v a).symm
                      have e2 : ((v : Int) + (y : Int)).tmod (b : Int) = (((v + y) % b : Nat) : Int) := by rw [Int.tmod_eq_emod_of_nonneg (by omega), ← Int.natCast_add]; exact (Int.natCast_emod _ _).symm
                      have e2' : ((v : Int) + (y : Int)) % (b : Int) = (((v + y) % b : Nat) : Int) := by rw [← Int.natCast_add]; exact (Int.natCast_emod _ _).symm
                      have e3 : (((v + y) % b : Nat) : Int) * (a : Int) = (((v + y) % b * a : Nat) : Int) := (Int.natCast_mul _ a).symm
                      have e4 : ((u : Int) + (x : Int)).tmod (a : Int) = (((u + x) % a : Nat) : Int) := by rw [Int.tmod_eq_emod_of_nonneg (by omega), ← Int.natCast_add]; exact (Int.natCast_emod _ _).symm
                      have e4' : ((u : Int) + (x : Int)) % (a : Int) = (((u + x) % a : Nat) : Int) := by rw [← Int.natCast_add]; exact (Int.natCast_emod _ _).symm
                      generalize bs.getD (v * a + u) false = p1 at *
                      generalize bs.getD ((v + y) % b * a + (u + x) % a) false = p2 at *
                      generalize v * a = va at *
                      generalize (v + y) % b * a = za at *
                      generalize (v + y) % b = z at *
                      generalize (u + x) % a = t at *
                      have k1 : IntKind.i64.wrap (va : Int) = (va : Int) := IntWalk.i64_in _ (by omega)
                      have k2 : IntKind.i64.wrap ((va : Int) + (u : Int)) = (va : Int) + (u : Int) := IntWalk.i64_in _ (by omega)
                      have k3 : IntKind.i64.wrap ((v : Int) + (y : Int)) = (v : Int) + (y : Int) := IntWalk.i64_in _ (by omega)
                      have k4 : IntKind.i64.wrap (z : Int) = (z : Int) := IntWalk.i64_in _ (by omega)
                      have k5 : IntKind.i64.wrap (za : Int) = (za : Int) := IntWalk.i64_in _ (by omega)
                      have k6 : IntKind.i64.wrap ((u : Int) + (x : Int)) = (u : Int) + (x : Int) := IntWalk.i64_in _ (by omega)
                      have k7 : IntKind.i64.wrap (t : Int) = (t : Int) := IntWalk.i64_in _ (by omega)
                      have k8 : IntKind.i64.wrap ((za : Int) + (t : Int)) = (za : Int) + (t : Int) := IntWalk.i64_in _ (by omega)
                      have j1 : (0 : Int) ≤ (va : Int) + (u : Int) := by omega
                      have j2 : ((va : Int) + (u : Int)).toNat = va + u := by omega
                      have j3 : (va : Int) + (u : Int) < (n : Int) := by omega
                      have j4 : (0 : Int) ≤ (za : Int) + (t : Int) := by omega
                      have j5 : ((za : Int) + (t : Int)).toNat = za + t := by omega
                      have j6 : (za : Int) + (t : Int) < (n : Int) := by omega
                      go_wp2_with fail
                      go_quiet (fail)
                      go_wp2_with fail
                      go_roundw
                      case rel =>
                        refine ⟨v + 1, p1 == p2, by omega, by go_num, rfl, fun h v' hv' => ?_, fun h => HEy.out u v hltu hltv (HV1.out.trans h), below_drewN hB _⟩
                        by_cases e : v' = v
                        · subst e; exact HV1.out.trans h
                        · exact HT1.out (by trivial) v' (by omega)
                      case measure => simp [intOf]; omega
                    · go_wp2_with fail
                      go_roundw
                      case rel =>
                        refine ⟨u + 1, true, by omega, by go_num, rfl, fun _ u' v' hu' hv' => ?_, (fun h => by cases h), hB⟩
                        by_cases e : u' = u
                        · subst e; exact HT1.out (by trivial) v' (by omega)
                        · exact HS1.out (by trivial) u' v' (by omega) hv'
                      case measure => simp [intOf]; omega
              · have hRt := HAy.out (fun u' v' hu' hv' => HS1.out (by trivial) u' v' (by omega) hv')
                subst hRt
                go_wp2_with fail
                go_roundw
                case rel => exact ⟨y + 1, by omega, by go_num, hB⟩
                case measure => simp [intOf]; omega
        · go_wp2_with fail
          go_roundw
          case rel => exact ⟨x + 1, by omega, by go_num, hB⟩
          case measure => simp [intOf]; omega
    · go_wp2_with fail
      refine (alive_any _).mono ?_
      rintro e w7 ⟨rfl, hb7⟩
      go_wp2_with fail
      go_ret
      exact ⟨rfl, (S.keep hb7).below⟩

set_option maxHeartbeats 1000000 in
set_option maxRecDepth 100000 in
theorem exact_walk (g : Gd) (dx dy : Int) (A0 : Option Addr) (n0 c0 : Nat) (w : World) (hr : Rd w A0 n0 (g.bits.map Value.bool)) (hc : n0 ≤ c0) :
    Calls Tryd.prog 4 #[.agg #[.int .i64 g.w, .int .i64 g.h, .slice A0 n0 c0], .int .i64 dx, .int .i64 dy] w fun e w' => e = .returned (.bool true) ∧ Below w.heap.size w w' := by
  have hl : g.bits.length = n0 := by simpa using hr.len
  by_cases hg : valid6B g = true ∧ -1000000000 ≤ dx ∧ dx ≤ 1000000000 ∧ -1000000000 ≤ dy ∧ dy ≤ 1000000000
  · obtain ⟨hv, h1, h2, h3, h4⟩ := hg
    unfold valid6B at hv
    rw [decide_eq_true_eq] at hv
    obtain ⟨W, H, bs⟩ := g
    obtain ⟨a, b, e1, e2, ha1, ha, hb1, hb, hbl⟩ := chk_zero hv.2
    simp only at e1 e2 hbl hl
    subst e1 e2
    have hv1 : bs.length ≤ 100 := hv.1
    have hp : 0 < n0 := by rw [← hl, hbl]; exact Nat.mul_pos hb1 ha1
    obtain ⟨bl, o, hA, _⟩ := hr.at_ hp
    subst hA
    exact exact_main a b n0 c0 bs dx dy bl o w ha1 hb1 ha hb (by omega) (by omega) hc hv.2 hr h1 h2 h3 h4
  · have HV := Lib.hid (fun A n c W h => valid6_any g A n c W h)
    have HG := Lib.hid hg
    have hL := Lib.hid hl
    clear hg hl
    generalize valid6B g = v at *
    have S0 := (St.start w).box #[.int .i64 g.w, .int .i64 g.h, .slice A0 n0 c0] 33
    simp only [List.nil_append] at S0
    obtain ⟨d0, d1, d2⟩ := (S0.blk 0 rfl).cell3
    cases v with
    | false =>
      clear HG
      go_enter Tryd.func4, Tryd.ntmps4
      go_wp2_with fail
      refine (HV.out _ _ _ _ hL.out).mono ?_
      rintro e w1 ⟨rfl, hb1⟩
      have S1 := S0.keep hb1
      clear d0 d1 d2
      go_wp2_with fail
      refine (alive_any _).mono ?_
      rintro e w2 ⟨rfl, hb2⟩
      go_wp2_with fail
      go_ret
      exact ⟨rfl, (S1.keep hb2).below⟩
    | true =>
      go_enter Tryd.func4, Tryd.ntmps4
      go_wp2_with fail
      refine (HV.out _ _ _ _ hL.out).mono ?_
      rintro e w1 ⟨rfl, hb1⟩
      have S1 := S0.keep hb1
      clear d0 d1 d2
      go_wp2_with fail
      all_goals first
        | (exfalso; exact HG.out ⟨by trivial, by omega, by omega, by omega, by omega⟩)
        | (refine (alive_any _).mono ?_
           rintro e w2 ⟨rfl, hb2⟩
           go_wp2_with fail
           go_ret
           exact ⟨rfl, (S1.keep hb2).below⟩)
end Go.Proofs.YtkhochbkjhpfgaaDoor
