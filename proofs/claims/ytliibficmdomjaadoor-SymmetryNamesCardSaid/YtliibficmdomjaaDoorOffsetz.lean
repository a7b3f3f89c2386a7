/- repeat.Offset: the step from one plane to another one. -/
import Derived.Test.YtliibficmdomjaaDoorMg5z
import Derived.Test.YtliibficmdomjaaDoorOfz
import Derived.Test.YtliibficmdomjaaDoorMg10z
namespace Go.Proofs.YtliibficmdomjaaDoor
open Go.RowKit

/-- The facts that stand while cells are looked at. -/
def offF (A B C a b c bl o a' b' c' bl' o' p q : Nat) (bs bs' : List Bool) (R l m : Nat) : List Fact :=
  [.rd (some ⟨bl, o, none⟩) (b * a) (bs.map Value.bool), .rd (some ⟨bl', o', none⟩) (b' * a') (bs'.map Value.bool),
   .blk p 24 #[.int .i64 a, .int .i64 b, .slice (some ⟨bl, o, none⟩) (b * a) c], .blk q 24 #[.int .i64 a', .int .i64 b', .slice (some ⟨bl', o', none⟩) (b' * a') c'],
   .blk R 43 #[.int .i64 0, .int .i64 0], .blk l 64 #[.int .i64 A, .int .i64 B, .int .i64 C], .blk m 64 #[.int .i64 A, .int .i64 B, .int .i64 C]]

theorem row_to {r : Nat} (a b bl o c : Nat) (Y : Int) (w : World) (h : o + (Y % (b : Int)).toNat * a = r) (ha1 : 1 ≤ a) (hb1 : 1 ≤ b) (ha : a ≤ 64) (hb : b ≤ 64) (hc : b * a ≤ c) :
    Calls Tryd.prog 38 #[.agg #[.int .i64 a, .int .i64 b, .slice (some ⟨bl, o, none⟩) (b * a) c], .int .i64 Y] w fun e w' => e = .returned (.slice (some ⟨bl, r, none⟩) a a) ∧ Below w.heap.size w w' := h ▸ row_any a b bl o c Y w ha1 hb1 ha hb hc
theorem row_cell {w : World} {bl o a b r k : Nat} {bs : List Bool} {Y : Int} {v : Bool} (h : o + (Y % (b : Int)).toNat * a = r) (hr : Rd w (some ⟨bl, o, none⟩) (b * a) (bs.map Value.bool)) (hb : 1 ≤ b) (hk : k < a) (hv : pl a b bs (k : Int) Y = v) : w.cell? ⟨bl, r + k, none⟩ = some (.bool v) := by
  subst h hv
  exact (rd_row Y hr hb).lit k (.bool (pl a b bs (k : Int) Y)) (by rw [List.getElem?_map, rowL_get hk]; rfl)
theorem pl_mod {a b : Nat} {bs : List Bool} {X Y : Int} {k : Nat} (h : X % (a : Int) = (k : Int)) : pl a b bs (k : Int) Y = pl a b bs X Y := pl_congr (by rw [← h, Int.emod_emod]) rfl

set_option maxHeartbeats 8000000 in
set_option maxRecDepth 100000 in
theorem offset_any (g g' : Gd) (A0 A0' : Option Addr) (n c n' c' : Nat) (w : World) (hr : Rd w A0 n (g.bits.map Value.bool)) (hr' : Rd w A0' n' (g'.bits.map Value.bool)) (hc : n ≤ c) (hc' : n' ≤ c') :
    Calls Tryd.prog 18 #[.agg #[.int .i64 g.w, .int .i64 g.h, .slice A0 n c], .agg #[.int .i64 g'.w, .int .i64 g'.h, .slice A0' n' c']] w (OffRet g g' w) := by
  have lb : g.bits.length = n := by simpa using hr.len
  have lb' : g'.bits.length = n' := by simpa using hr'.len
  have S0 := (((((St.start w).addRd hr).addRd hr').box #[.int .i64 g.w, .int .i64 g.h, .slice A0 n c] 24).box #[.int .i64 g'.w, .int .i64 g'.h, .slice A0' n' c'] 24).box #[.int .i64 0, .int .i64 0] 43
  simp only [size_alloc1, List.nil_append, List.cons_append] at S0
  obtain ⟨c0, c1, c2⟩ := (S0.blk 2 rfl).cell3
  obtain ⟨e0, e1, e2⟩ := (S0.blk 3 rfl).cell3
  have HO := fun W h => of_any g A0 n c W h hc
  have HO' := fun W h => of_any g' A0' n' c' W h hc'
  by_cases h0 : chkG g = 0
  case neg =>
    have HB : both2 g g' = chkG g := by unfold both2; rw [if_pos h0]
    rw [ofG_bad h0] at HO
    have hcb : (chkG g != 0) = true := by simpa using h0
    have H0 := Lib.hid h0
    generalize chkG g = k at *
    have HB := Lib.hid HB
    have HO := Lib.hid HO
    clear h0 lb lb' hr hr' HO'
    go_enter Tryd.func18, Tryd.ntmps18
    go_wp2_with fail
    refine (HO.out _ (S0.rd 0 rfl)).mono ?_
    rintro e w1 ⟨rfl, hb1⟩
    have S1 := (S0.keep hb1).alloc (.cells #[.int .i64 0, .int .i64 0, .int .i64 0] 64)
    clear c0 c1 c2 e0 e1 e2
    have hR2 := S1.blk 4 rfl
    obtain ⟨r0, r1⟩ := hR2.cellP
    obtain ⟨f0, f1⟩ := hR2.frozenP
    obtain ⟨q0, q1⟩ := (hR2.setP (.int .i64 0) (.int .i64 0)).cellP
    go_wp2_with fail
    refine bodyPost_ret (v := .tuple #[.agg #[.int .i64 0, .int .i64 0], .int .i64 k]) (by simp [results, Tryd.results18, go_sem, q0, q1]) rfl ?_
    exact offRet_bad HB.out H0.out (below_setP S1.below (by omega) _ _)
  case pos =>
  obtain ⟨W, H, bs⟩ := g
  obtain ⟨a, b, h1, h2, ha1, ha, hbb1, hb, hl⟩ := chk_zero h0
  simp only at h1 h2 hl lb
  subst h1 h2
  obtain rfl : n = b * a := by omega
  rw [ofG_ok h0] at HO
  simp only at HO S0 c0 c1 c2 hr ⊢
  have hL := lat_is (bs := bs) ha1 hbb1
  obtain ⟨bl, o, hA, _⟩ := hr.at_ (Nat.mul_pos hbb1 ha1)
  subst hA
  by_cases h0' : chkG g' = 0
  case neg =>
    have HB : both2 ⟨(a : Int), (b : Int), bs⟩ g' = chkG g' := by unfold both2; rw [if_neg (by omega)]
    rw [ofG_bad h0'] at HO'
    have hcb : (chkG g' != 0) = true := by simpa using h0'
    have H0 := Lib.hid h0'
    generalize chkG g' = k at *
    have HB := Lib.hid HB
    have HO := Lib.hid HO
    have HO' := Lib.hid HO'
    generalize latA a b bs = A at *
    generalize latB a b bs = B at *
    generalize latC a b bs = C at *
    clear h0 h0' lb lb' hr hr' hl hL
    go_enter Tryd.func18, Tryd.ntmps18
    go_wp2_with fail
    refine (HO.out _ (S0.rd 0 rfl)).mono ?_
    rintro e w1 ⟨rfl, hb1⟩
    have S1 := (S0.keep hb1).box #[.int .i64 A, .int .i64 B, .int .i64 C] 64
    simp only [List.nil_append, List.cons_append] at S1
    clear c0 c1 c2 e0 e1 e2
    obtain ⟨e0, e1, e2⟩ := (S1.blk 3 rfl).cell3
    go_wp2_with fail
    refine (HO'.out _ (S1.rd 1 rfl)).mono ?_
    rintro e w2 ⟨rfl, hb2⟩
    have S2 := (S1.keep hb2).alloc (.cells #[.int .i64 0, .int .i64 0, .int .i64 0] 64)
    clear e0 e1 e2
    have hR2 := S2.blk 4 rfl
    obtain ⟨r0, r1⟩ := hR2.cellP
    obtain ⟨f0, f1⟩ := hR2.frozenP
    obtain ⟨q0, q1⟩ := (hR2.setP (.int .i64 0) (.int .i64 0)).cellP
    go_wp2_with fail
    refine bodyPost_ret (v := .tuple #[.agg #[.int .i64 0, .int .i64 0], .int .i64 k]) (by simp [results, Tryd.results18, go_sem, q0, q1]) rfl ?_
    exact offRet_bad HB.out H0.out (below_setP S2.below (by omega) _ _)
  case pos =>
  obtain ⟨W', H', bs'⟩ := g'
  obtain ⟨a', b', h1, h2, ha1', ha', hbb1', hb', hl'⟩ := chk_zero h0'
  simp only at h1 h2 hl' lb'
  subst h1 h2
  obtain rfl : n' = b' * a' := by omega
  rw [ofG_ok h0'] at HO'
  simp only at HO' S0 e0 e1 e2 hr' ⊢
  have hL' := lat_is (bs := bs') ha1' hbb1'
  obtain ⟨bl', o', hA, _⟩ := hr'.at_ (Nat.mul_pos hbb1' ha1')
  subst hA
  have HB := Lib.hid (both2_ok h0 h0')
  have HN := Lib.hid (off_lat (bs := bs) (bs' := bs') ha1 hbb1 ha1' hbb1')
  obtain ⟨A, hA⟩ : ∃ q, latA a b bs = q := ⟨_, rfl⟩
  obtain ⟨B, hB⟩ : ∃ q, latB a b bs = q := ⟨_, rfl⟩
  obtain ⟨C, hC⟩ : ∃ q, latC a b bs = q := ⟨_, rfl⟩
  obtain ⟨A', hA'⟩ : ∃ q, latA a' b' bs' = q := ⟨_, rfl⟩
  obtain ⟨B', hB'⟩ : ∃ q, latB a' b' bs' = q := ⟨_, rfl⟩
  obtain ⟨C', hC'⟩ : ∃ q, latC a' b' bs' = q := ⟨_, rfl⟩
  rw [hA, hB, hC] at HO hL
  rw [hA', hB', hC'] at HO' hL'
  rw [hA, hB, hC, hA', hB', hC'] at HN
  have HO := Lib.hid HO
  have HO' := Lib.hid HO'
  clear hA hB hC hA' hB' hC' h0 h0' lb lb' hl hl'
  have hHR := Lib.hid (fun wz (hz : Below w.heap.size w wz) => hr.below hz)
  have hHR' := Lib.hid (fun wz (hz : Below w.heap.size w wz) => hr'.below hz)
  clear hr hr'
  by_cases hE : A = A' ∧ B = B' ∧ C = C'
  case neg =>
    have HX := Lib.hid (HN.out hE)
    have hne : ((A : Int) = (A' : Int) ∧ (B : Int) = (B' : Int) ∧ (C : Int) = (C' : Int)) = False := eq_false fun h => hE ⟨by omega, by omega, by omega⟩
    clear hL hL' HN
    go_enter Tryd.func18, Tryd.ntmps18
    go_wp2_with fail
    refine (HO.out _ (S0.rd 0 rfl)).mono ?_
    rintro e w1 ⟨rfl, hb1⟩
    have S1 := (S0.keep hb1).box #[.int .i64 A, .int .i64 B, .int .i64 C] 64
    simp only [List.nil_append, List.cons_append] at S1
    clear c0 c1 c2 e0 e1 e2
    obtain ⟨e0, e1, e2⟩ := (S1.blk 3 rfl).cell3
    go_wp2_with fail
    refine (HO'.out _ (S1.rd 1 rfl)).mono ?_
    rintro e w2 ⟨rfl, hb2⟩
    have S2 := (S1.keep hb2).box #[.int .i64 A', .int .i64 B', .int .i64 C'] 64
    simp only [List.nil_append, List.cons_append] at S2
    clear e0 e1 e2
    have hR2 := S2.blk 4 rfl
    obtain ⟨r0, r1⟩ := hR2.cellP
    obtain ⟨f0, f1⟩ := hR2.frozenP
    obtain ⟨q0, q1⟩ := (hR2.setP (.int .i64 0) (.int .i64 0)).cellP
    obtain ⟨l0, l1, l2⟩ := (S2.blk 5 rfl).cell3
    obtain ⟨m0, m1, m2⟩ := (S2.blk 6 rfl).cell3
    go_wp2_with fail
    all_goals first | (exfalso; omega) | skip
    all_goals
      refine bodyPost_ret (v := .tuple #[.agg #[.int .i64 0, .int .i64 0], .int .i64 6]) (by simp [results, Tryd.results18, go_sem, q0, q1]) rfl ?_
      exact offRet_none HB.out HX.out (below_setP S2.below (by omega) _ _)
  case pos =>
  obtain ⟨rfl, rfl, rfl⟩ := hE
  have HL := Lib.hid hL
  have HL' := Lib.hid hL'
  have x1 := hL.a1
  have x2 := hL.a2
  have x2' := hL'.a2
  have x4 := hL.c1
  have x5 := hL.c2
  have x5' := hL'.c2
  have hQ : (A : Int) * (C : Int) = ((A * C : Nat) : Int) := (Int.natCast_mul A C).symm
  have hQb : A * C ≤ 64 * 64 := Nat.mul_le_mul (by omega) (by omega)
  have HM := Lib.hid (fun x y => allc_iff (x := x) (y := y) ha1 hbb1 ha1' hbb1' hL hL')
  have hdc : ∀ i, i < A * C → i / A < C := fun i hi => Nat.div_lt_of_lt_mul hi
  obtain ⟨n, hn⟩ : ∃ n, n = A * C := ⟨_, rfl⟩
  rw [← hn] at HM hQ hQb hdc
  have HDC := Lib.hid hdc
  clear hn HN hL hL' hdc
  go_enter Tryd.func18, Tryd.ntmps18
  go_wp2_with fail
  refine (HO.out _ (S0.rd 0 rfl)).mono ?_
  rintro e w1 ⟨rfl, hb1⟩
  have S1 := (S0.keep hb1).box #[.int .i64 A, .int .i64 B, .int .i64 C] 64
  simp only [List.nil_append, List.cons_append] at S1
  clear c0 c1 c2 e0 e1 e2
  obtain ⟨e0, e1, e2⟩ := (S1.blk 3 rfl).cell3
  go_wp2_with fail
  refine (HO'.out _ (S1.rd 1 rfl)).mono ?_
  rintro e w2 ⟨rfl, hb2⟩
  have S2 := (S1.keep hb2).box #[.int .i64 A, .int .i64 B, .int .i64 C] 64
  simp only [List.nil_append, List.cons_append] at S2
  clear e0 e1 e2
  obtain ⟨l0, l1, l2⟩ := (S2.blk 5 rfl).cell3
  obtain ⟨m0, m1, m2⟩ := (S2.blk 6 rfl).cell3
  have S3 : St w (offF A B C a b c bl o a' b' c' bl' o' w.heap.size (w.heap.size + 1) bs bs' (w.heap.size + 1 + 1) w1.heap.size w2.heap.size) _ := S2
  go_wp2_with fail
  clear S0 S1 S2 l0 l1 l2 m0 m1 m2 HO HO'
  go_loopw [39] (fun i wr => ∃ y : Nat, y ≤ C ∧ i = .int .i64 y ∧ (∀ x' y' : Nat, x' < A → y' < y → ¬ Meets a b bs a' b' bs' x' y') ∧
      St w (offF A B C a b c bl o a' b' c' bl' o' w.heap.size (w.heap.size + 1) bs bs' (w.heap.size + 1 + 1) w1.heap.size w2.heap.size) wr) (fun i _ => C - (intOf i).toNat)
  case atStart => exact ⟨0, Nat.zero_le _, rfl, fun _ _ _ h => absurd h (by omega), S3⟩
  case round =>
    clear S3
    obtain ⟨y, hy, rfl, hall, S⟩ := hrel
    have HA := Lib.hid hall
    clear hall
    by_cases hlty : y < C
    · obtain ⟨m0, m1, m2⟩ := (S.blk 6 rfl).cell3
      go_wp2_with fail
      go_loopw [44] (fun i wr => ∃ x : Nat, x ≤ A ∧ i = .int .i64 x ∧ (∀ x' : Nat, x' < x → ¬ Meets a b bs a' b' bs' x' y) ∧
          St w (offF A B C a b c bl o a' b' c' bl' o' w.heap.size (w.heap.size + 1) bs bs' (w.heap.size + 1 + 1) w1.heap.size w2.heap.size) wr) (fun i _ => A - (intOf i).toNat)
      case atStart => exact ⟨0, Nat.zero_le _, rfl, fun _ h => absurd h (by omega), S⟩
      case round =>
        clear S m0 m1 m2
        obtain ⟨x, hx, rfl, hall, S⟩ := hrel
        have HX := Lib.hid hall
        clear hall
        by_cases hltx : x < A
        · obtain ⟨l0, l1, l2⟩ := (S.blk 5 rfl).cell3
          go_wp2_with fail
          go_loopw [52, 11] (fun i s wr => ∃ j : Nat, j ≤ n ∧ i = .int .i64 j ∧ s = .bool (allc a b bs a' b' bs' A x y j) ∧
              St w (offF A B C a b c bl o a' b' c' bl' o' w.heap.size (w.heap.size + 1) bs bs' (w.heap.size + 1 + 1) w1.heap.size w2.heap.size) wr) (fun i _ _ => n - (intOf i).toNat)
          case atStart => exact ⟨0, Nat.zero_le _, rfl, by rw [allc_zero], S⟩
          case round =>
            clear S l0 l1 l2
            obtain ⟨j, hj, rfl, rfl, S⟩ := hrel
            by_cases hltj : j < n
            · have hv := HDC.out j hltj
              have hu : j % A < A := Nat.mod_lt _ x1
              have HS := Lib.hid (allc_succ a b bs a' b' bs' A x y j)
              unfold eqc at HS
              have t1 : (j : Int).tmod (A : Int) = ((j % A : Nat) : Int) := by rw [Int.tmod_eq_emod_of_nonneg (by omega)]; exact (Int.natCast_emod _ _).symm
              have t2 : (j : Int).tdiv (A : Int) = ((j / A : Nat) : Int) := by rw [Int.tdiv_eq_ediv_of_nonneg (by omega)]; exact (Int.natCast_ediv _ _).symm
              have t3 : (j : Int) % (A : Int) = ((j % A : Nat) : Int) := (Int.natCast_emod _ _).symm
              have t4 : (j : Int) / (A : Int) = ((j / A : Nat) : Int) := (Int.natCast_ediv _ _).symm
              have n1 : ¬ (A : Int) = 0 := by omega
              have n2 : ¬ A = 0 := by omega
              generalize j % A = u at *
              generalize j / A = v at *
              have u4 : IntKind.i64.wrap (v : Int) = (v : Int) := IntWalk.i64_in _ (by omega)
              obtain ⟨l0, l1, l2⟩ := (S.blk 5 rfl).cell3
              rcases Bool.eq_false_or_eq_true (allc a b bs a' b' bs' A x y j) with hs | hs
              · have u1 : IntKind.i64.wrap ((v : Int) + (y : Int)) = (v : Int) + (y : Int) := IntWalk.i64_in _ (by omega)
                have u2 : IntKind.i64.wrap ((u : Int) + (x : Int)) = (u : Int) + (x : Int) := IntWalk.i64_in _ (by omega)
                rw [hs] at HS ⊢
                clear hs
                have k1 := Int.emod_nonneg ((u : Int) + (x : Int)) (show (a' : Int) ≠ 0 by omega)
                have k2 := Int.emod_lt_of_pos ((u : Int) + (x : Int)) (show 0 < (a' : Int) by omega)
                obtain ⟨k, hk⟩ : ∃ k : Nat, ((u : Int) + (x : Int)) % (a' : Int) = (k : Int) := ⟨(((u : Int) + (x : Int)) % (a' : Int)).toNat, by omega⟩
                have hka : k < a' := by omega
                have hua : u < a := by omega
                obtain ⟨p1, hp1⟩ : ∃ q, pl a b bs (u : Int) (v : Int) = q := ⟨_, rfl⟩
                obtain ⟨p2, hp2⟩ : ∃ q, pl a' b' bs' ((u : Int) + (x : Int)) ((v : Int) + (y : Int)) = q := ⟨_, rfl⟩
                rw [hp1, hp2] at HS
                obtain ⟨r1, hr1⟩ : ∃ r, o + ((v : Int) % (b : Int)).toNat * a = r := ⟨_, rfl⟩
                obtain ⟨r2, hr2⟩ : ∃ r, o' + (((v : Int) + (y : Int)) % (b' : Int)).toNat * a' = r := ⟨_, rfl⟩
                have HC1 := Lib.hid (fun wz (hz : Below w.heap.size w wz) => row_cell hr1 (hHR.out wz hz) hbb1 hua hp1)
                have HC2 := Lib.hid (fun wz (hz : Below w.heap.size w wz) => row_cell hr2 (hHR'.out wz hz) hbb1' hka ((pl_mod hk).trans hp2))
                have HK := Lib.hid hk
                have HR1 := Lib.hid hr1
                have HR2 := Lib.hid hr2
                clear k1 k2 hk hp1 hp2 hr1 hr2
                obtain ⟨c0, c1, c2⟩ := (S.blk 2 rfl).cell3
                obtain ⟨e0, e1, e2⟩ := (S.blk 3 rfl).cell3
                go_wp2_with fail
                go_quiet (fail)
                have SD := (S.drewN nq).drew
                clear l0 l1 l2 c0 c1 c2 e0 e1 e2
                obtain ⟨c0, c1, c2⟩ := ((S.drewN nq).blk 2 rfl).cell3
                obtain ⟨e0, e1, e2⟩ := ((S.drewN nq).blk 3 rfl).cell3
                go_wp2_with fail
                go_region_held3 (fun w' => (w'.cell? ⟨w.heap.size, 0, none⟩ = some (.int .i64 a) ∧ w'.cell? ⟨w.heap.size, 1, none⟩ = some (.int .i64 b) ∧ w'.cell? ⟨w.heap.size, 2, none⟩ = some (.slice (some ⟨bl, o, none⟩) (b * a) c)) ∧
                    (w'.cell? ⟨w.heap.size + 1, 0, none⟩ = some (.int .i64 a') ∧ w'.cell? ⟨w.heap.size + 1, 1, none⟩ = some (.int .i64 b') ∧ w'.cell? ⟨w.heap.size + 1, 2, none⟩ = some (.slice (some ⟨bl', o', none⟩) (b' * a') c')) ∧
                    w'.cell? ⟨bl, r1 + u, none⟩ = some (.bool p1) ∧ w'.cell? ⟨bl', r2 + k, none⟩ = some (.bool p2))
                  (first | exact ⟨(SD.blk 2 rfl).cell3, (SD.blk 3 rfl).cell3, HC1.out _ SD.below, HC2.out _ SD.below⟩ | go_keep)
                  (first
                    | (go_at_call 39; refine (rmod_to ((u : Int) + (x : Int)) (a' : Int) _ HK.out (by omega) (by omega)).mono ?_; rintro ez wz ⟨rfl, rfl⟩)
                    | (go_at_call 38; (with_reducible refine (row_to a b bl o c (v : Int) _ HR1.out ha1 hbb1 ha hb hc).mono ?_); rintro ez wz ⟨rfl, hbz⟩; replace SD := SD.keep hbz)
                    | (go_at_call 38; (with_reducible refine (row_to a' b' bl' o' c' ((v : Int) + (y : Int)) _ HR2.out ha1' hbb1' ha' hb' hc').mono ?_); rintro ez wz ⟨rfl, hbz⟩; replace SD := SD.keep hbz)
                    | fail)
                all_goals
                  go_wp2_with fail
                  go_roundw
                  case rel => exact ⟨j + 1, by omega, by go_num, by rw [HS.out, Bool.true_and], SD⟩
                  case measure => simp [intOf]; omega
              · rw [hs] at HS ⊢
                clear hs
                go_wp2_with fail
                go_quiet (fail)
                go_wp2_with fail
                go_quiet (fail)
                go_wp2_with fail
                go_roundw
                case rel => exact ⟨j + 1, by omega, by go_num, by rw [HS.out]; rfl, S.drewN _⟩
                case measure => simp [intOf]; omega
            · have hjn : j = n := by omega
              have HZ := Lib.hid (HM.out x y)
              rcases Bool.eq_false_or_eq_true (allc a b bs a' b' bs' A x y n) with hs | hs
              · have HT := Lib.hid (HZ.out.1 hs)
                rw [hjn, hs]
                clear hs
                have hR2 := S.blk 4 rfl
                obtain ⟨r0, r1⟩ := hR2.cellP
                obtain ⟨f0, f1⟩ := hR2.frozenP
                obtain ⟨q0, q1⟩ := (hR2.setP (.int .i64 x) (.int .i64 y)).cellP
                go_wp2_with fail
                refine bodyPost_ret (v := .tuple #[.agg #[.int .i64 x, .int .i64 y], .int .i64 0]) (by simp [results, Tryd.results18, go_sem, q0, q1]) rfl ?_
                exact offRet_some HB.out (off_cell ha1' hbb1' HL'.out HT.out HA.out HX.out) (below_setP S.below (by omega) _ _)
              · have HT : Hid (¬ Meets a b bs a' b' bs' x y) := Lib.hid fun h => by rw [HZ.out.2 h] at hs; cases hs
                rw [hjn, hs]
                clear hs
                go_wp2_with fail
                go_roundw
                case rel =>
                  refine ⟨x + 1, by omega, by go_num, fun x' hx' => ?_, S⟩
                  rcases Nat.lt_or_ge x' x with h | h
                  · exact HX.out x' h
                  · obtain rfl : x' = x := by omega
                    exact HT.out
                case measure => simp [intOf]; omega
        · have hxA : x = A := by omega
          go_wp2_with fail
          go_roundw
          case rel =>
            refine ⟨y + 1, by omega, by go_num, fun x' y' hx' hy' => ?_, S⟩
            rcases Nat.lt_or_ge y' y with h | h
            · exact HA.out x' y' hx' h
            · obtain rfl : y' = y := by omega
              exact HX.out x' (by omega)
          case measure => simp [intOf]; omega
    · have hyC : y = C := by omega
      have hR2 := S.blk 4 rfl
      obtain ⟨r0, r1⟩ := hR2.cellP
      obtain ⟨f0, f1⟩ := hR2.frozenP
      obtain ⟨q0, q1⟩ := (hR2.setP (.int .i64 0) (.int .i64 0)).cellP
      go_wp2_with fail
      refine bodyPost_ret (v := .tuple #[.agg #[.int .i64 0, .int .i64 0], .int .i64 6]) (by simp [results, Tryd.results18, go_sem, q0, q1]) rfl ?_
      exact offRet_none HB.out (off_none_cell ha1' hbb1' HL'.out fun x' y' h1 h2 => HA.out x' y' h1 (by omega)) (below_setP S.below (by omega) _ _)
end Go.Proofs.YtliibficmdomjaaDoor
