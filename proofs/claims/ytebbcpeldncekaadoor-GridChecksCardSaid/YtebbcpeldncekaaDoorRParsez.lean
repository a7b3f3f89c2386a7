/- raddleref01.Parse reads the text of a grid. -/
import Derived.Test.YtebbcpeldncekaaDoorRParPz
import Derived.Test.YtebbcpeldncekaaDoorParsez
import Derived.Test.YtebbcpeldncekaaDoorRCellz
namespace Go.Proofs.YtebbcpeldncekaaDoor
open Go.RowKit

theorem first_ex {P : Nat → Prop} : ∀ n, P n → ∃ n, P n ∧ ∀ m, m < n → ¬ P m := fun n => by
  induction n using Nat.strongRecOn with
  | ind n ih =>
    intro hn
    by_cases h : ∃ m, m < n ∧ P m
    · obtain ⟨m, hm, hp⟩ := h
      exact ih m hm hp
    · exact ⟨n, hn, fun m hm hp => h ⟨m, hm, hp⟩⟩
theorem byte_at {l : List UInt8} {x : Nat} (hx : x < l.length) (hp : x < (⟨l.toArray⟩ : ByteArray).size) : ((⟨l.toArray⟩ : ByteArray)[x]'hp).toNat = (l.getD x 0).toNat := by
  have e : (⟨l.toArray⟩ : ByteArray)[x]'hp = l.getD x 0 := by
    rw [List.getD_eq_getElem?_getD, List.getElem?_eq_getElem hx]
    rfl
  rw [e]
theorem byte_ne {l : List UInt8} {x : Nat} (hx : x < l.length) {k : UInt8} : l[x]? ≠ some k ↔ (l.getD x 0).toNat ≠ k.toNat := by
  rw [List.getD_eq_getElem?_getD, List.getElem?_eq_getElem hx, Option.getD_some]
  constructor
  · intro h e; exact h (by rw [UInt8.toNat_inj.1 e])
  · intro h e; injection e with e; exact h (by rw [e])

set_option maxHeartbeats 2000000 in
set_option maxRecDepth 100000 in
theorem rparse_nofeed (s : List UInt8) (w : World) (hs : s.length ≤ 5000) (hn : ∀ j, j < s.length → s[j]? ≠ some 10) : Calls Tryd.prog 15 #[str s] w (RetG (parseG s) w) := by
  have hp : parseG s = (Gd.zero, 12) := by
    refine ref_bad (t := s.length) ⟨hn, fun h => absurd h (by omega), Nat.le_refl _⟩ ?_
    rintro ⟨⟨h1, h2, h3, h4⟩, _⟩
    rw [Nat.mod_eq_of_lt (by omega)] at h3
    omega
  rw [hp]
  have S0 := (St.start w).box #[.int .i64 0, .int .i64 0, .slice none 0 0] 24
  simp only [List.nil_append] at S0
  have hsz := size_list s
  have HN := Lib.hid (fun j hj => (byte_ne (k := 10) hj).1 (hn j hj))
  have HBy := Lib.hid (fun x hx hp => byte_at (l := s) (x := x) hx hp)
  clear hp hn
  go_enter Tryd.func15, Tryd.ntmps15
  go_wp2_with fail
  go_loopw [4] (fun i wr => ∃ t : Nat, t ≤ s.length ∧ i = .int .i64 t ∧ wr = w.alloc (.cells #[.int .i64 0, .int .i64 0, .slice none 0 0] 24)) (fun i _ => s.length - (intOf i).toNat)
  case atStart => exact ⟨0, Nat.zero_le _, rfl, rfl⟩
  case round =>
    obtain ⟨t, ht, rfl, rfl⟩ := hrel
    by_cases hlt : t < s.length
    · have hb := HBy.out t hlt
      have hne := HN.out t hlt
      have hb2 : (s.getD t 0).toNat < 256 := UInt8.toNat_lt _
      generalize (s.getD t 0).toNat = v at *
      have hne1 : v ≠ 10 := hne
      have hne2 : ((v : Int) != 10) = true := by simp; omega
      clear hne
      go_wp2_with fail
      go_roundw
      case rel => exact ⟨t + 1, by omega, by go_num, by trivial⟩
      case measure => simp [intOf]; omega
    · obtain rfl : t = s.length := by omega
      have hR := S0.blk 0 rfl
      obtain ⟨c0, c1, c2⟩ := hR.cell3

      have d1 : ((s.length : Nat) : Int).tmod ((s.length : Int) + 1) = (s.length : Int) := by
        rw [Int.tmod_eq_emod_of_nonneg (by omega)]; exact Int.emod_eq_of_lt (by omega) (by omega)
      have d2 : ((s.length : Nat) : Int) % ((s.length : Int) + 1) = (s.length : Int) := Int.emod_eq_of_lt (by omega) (by omega)
      generalize s.length = L at *
      have n1 : ¬ ((L : Int) + 1) = 0 := by omega
      by_cases h1 : L < 1
      · go_wp2_with fail
        refine bodyPost_ret (v := .tuple #[.agg #[.int .i64 0, .int .i64 0, .slice none 0 0], .int .i64 12]) (by simp [results, Tryd.results15, go_sem]) rfl ?_
        exact bad_ret rfl S0.below
      by_cases h2 : 64 < L
      · go_wp2_with fail
        refine bodyPost_ret (v := .tuple #[.agg #[.int .i64 0, .int .i64 0, .slice none 0 0], .int .i64 12]) (by simp [results, Tryd.results15, go_sem]) rfl ?_
        exact bad_ret rfl S0.below
      have n2 : ¬ (L : Int) = 0 := by omega
      go_wp2_with fail
      refine bodyPost_ret (v := .tuple #[.agg #[.int .i64 0, .int .i64 0, .slice none 0 0], .int .i64 12]) (by simp [results, Tryd.results15, go_sem]) rfl ?_
      exact bad_ret rfl S0.below

set_option maxHeartbeats 4000000 in
set_option maxRecDepth 100000 in
theorem rparse_feed (s : List UInt8) (T : Nat) (w : World) (hs : s.length ≤ 5000) (hT : T < s.length) (hn : ∀ j, j < T → s[j]? ≠ some 10) (hf : s[T]? = some 10) : Calls Tryd.prog 15 #[str s] w (RetG (parseG s) w) := by
  have hF : First s T := ⟨hn, fun _ => hf, Nat.le_of_lt hT⟩
  have HPB := Lib.hid (fun h : ¬ (Shape s T ∧ ∀ i, i < s.length → GoodAt s T i) => ref_bad hF h)
  have HPO := Lib.hid (fun h1 h2 => ref_ok (s := s) (t := T) h1 h2)
  have S0 := (St.start w).box #[.int .i64 0, .int .i64 0, .slice none 0 0] 24
  simp only [List.nil_append] at S0
  have hsz := size_list s
  have HN := Lib.hid (fun j hj => (byte_ne (k := 10) (Nat.lt_trans hj hT)).1 (hn j hj))
  have HBy := Lib.hid (fun x hx hp => byte_at (l := s) (x := x) hx hp)
  have HT := Lib.hid (show (s.getD T 0).toNat = 10 by rw [List.getD_eq_getElem?_getD, hf]; rfl)
  clear hn hf hF
  go_enter Tryd.func15, Tryd.ntmps15
  go_wp2_with fail
  go_loopw [4] (fun i wr => ∃ t : Nat, t ≤ T ∧ i = .int .i64 t ∧ wr = w.alloc (.cells #[.int .i64 0, .int .i64 0, .slice none 0 0] 24)) (fun i _ => T - (intOf i).toNat)
  case atStart => exact ⟨0, Nat.zero_le _, rfl, rfl⟩
  case round =>
    obtain ⟨t, ht, rfl, rfl⟩ := hrel
    by_cases hlt : t < T
    · have hb := HBy.out t (by omega)
      have hne := HN.out t hlt
      have hb2 : (s.getD t 0).toNat < 256 := UInt8.toNat_lt _
      generalize (s.getD t 0).toNat = v at *
      have hne1 : v ≠ 10 := hne
      have hne2 : ((v : Int) != 10) = true := by simp; omega
      clear hne
      go_wp2_with fail
      go_roundw
      case rel => exact ⟨t + 1, by omega, by go_num, by trivial⟩
      case measure => simp [intOf]; omega
    · obtain rfl : t = T := by omega
      have hR := S0.blk 0 rfl
      have hb := HBy.out t hT
      rw [HT.out] at hb
      have hlL : Hid (∀ L, L = s.length → L = L / (t + 1) * (t + 1) + L % (t + 1)) := Lib.hid (fun L _ => by have := Nat.div_add_mod L (t + 1); rw [Nat.mul_comm] at this; omega)
      have d1 : ((s.length : Nat) : Int).tmod ((t : Int) + 1) = ((s.length % (t + 1) : Nat) : Int) := by
        rw [Int.tmod_eq_emod_of_nonneg (by omega)]; exact (Int.natCast_emod _ _).symm
      have d2 : ((s.length : Nat) : Int) % ((t : Int) + 1) = ((s.length % (t + 1) : Nat) : Int) := (Int.natCast_emod _ _).symm
      have d3 : ((s.length : Nat) : Int).tdiv ((t : Int) + 1) = ((s.length / (t + 1) : Nat) : Int) := by
        rw [Int.tdiv_eq_ediv_of_nonneg (by omega)]; exact (Int.natCast_ediv _ _).symm
      have d4 : ((s.length : Nat) : Int) / ((t : Int) + 1) = ((s.length / (t + 1) : Nat) : Int) := (Int.natCast_ediv _ _).symm
      have n1 : ¬ ((t : Int) + 1) = 0 := by omega
      have HSh := Lib.hid (show Shape s t ↔ 1 ≤ t ∧ t ≤ 64 ∧ s.length % (t + 1) = 0 ∧ s.length / (t + 1) ≤ 64 from Iff.rfl)
      have hdL : s.length / (t + 1) ≤ s.length := Nat.div_le_self _ _
      have hmL : s.length % (t + 1) ≤ s.length := Nat.mod_le _ _
      by_cases hbad : ¬ (1 ≤ t ∧ t ≤ 64 ∧ s.length % (t + 1) = 0 ∧ s.length / (t + 1) ≤ 64)
      · have HP := Lib.hid (HPB.out (fun h => hbad (HSh.out.1 h.1)))
        obtain ⟨c0, c1, c2⟩ := hR.cell3

        generalize s.length % (t + 1) = m at *
        generalize s.length / (t + 1) = h at *
        have k1 : IntKind.i64.wrap (m : Int) = (m : Int) := IntWalk.i64_in _ (by omega)
        have k2 : IntKind.i64.wrap (h : Int) = (h : Int) := IntWalk.i64_in _ (by omega)
        by_cases h1 : t < 1
        · clear hbad
          go_wp2_with fail
          refine bodyPost_ret (v := .tuple #[.agg #[.int .i64 0, .int .i64 0, .slice none 0 0], .int .i64 12]) (by simp [results, Tryd.results15, go_sem]) rfl ?_
          exact bad_ret HP.out S0.below
        by_cases h2 : 64 < t
        · clear hbad
          go_wp2_with fail
          refine bodyPost_ret (v := .tuple #[.agg #[.int .i64 0, .int .i64 0, .slice none 0 0], .int .i64 12]) (by simp [results, Tryd.results15, go_sem]) rfl ?_
          exact bad_ret HP.out S0.below
        by_cases h3 : m ≠ 0
        · have h4 : ((m : Int) != 0) = true := by simp; omega
          clear hbad
          go_wp2_with fail
          refine bodyPost_ret (v := .tuple #[.agg #[.int .i64 0, .int .i64 0, .slice none 0 0], .int .i64 12]) (by simp [results, Tryd.results15, go_sem]) rfl ?_
          exact bad_ret HP.out S0.below
        · obtain rfl : m = 0 := by omega
          have h4 : 64 < h := by omega
          clear hbad
          go_wp2_with fail
          refine bodyPost_ret (v := .tuple #[.agg #[.int .i64 0, .int .i64 0, .slice none 0 0], .int .i64 12]) (by simp [results, Tryd.results15, go_sem]) rfl ?_
          exact bad_ret HP.out S0.below
      · have hok : 1 ≤ t ∧ t ≤ 64 ∧ s.length % (t + 1) = 0 ∧ s.length / (t + 1) ≤ 64 := Decidable.not_not.1 hbad
        clear hbad
        have HSH := Lib.hid (HSh.out.2 hok)
        obtain ⟨ht1, ht64, hm0, hh64⟩ := hok
        have HLL := Lib.hid (show s.length = s.length / (t + 1) * (t + 1) by have := hlL.out _ rfl; omega)
        have hh1 : 1 ≤ s.length / (t + 1) := by
          rcases Nat.eq_zero_or_pos (s.length / (t + 1)) with e | e
          · have := HLL.out; rw [e] at this; omega
          · exact e
        have HF0 := Lib.hid (fillB_zero s t (s.length / (t + 1)))
        have HFS := Lib.hid (fun i (h1 : i % (t + 1) < t) (h2 : i / (t + 1) < s.length / (t + 1)) h3 => fillB_set (s := s) h1 h2 h3)
        have HFK := Lib.hid (fun i h1 => fillB_keep (s := s) (t := t) (h := s.length / (t + 1)) (i := i) h1)
        have HSP := Lib.hid (fun i hi => split_at (t := t) (h := s.length / (t + 1)) (i := i) hi HLL.out)
        have HPO2 := Lib.hid (fun h2 => (HPO.out HSH.out h2).resolve_right (by omega))
        clear HPO hlL HSh
        rw [hm0] at d1 d2
        generalize s.length / (t + 1) = h at *
        have k2 : IntKind.i64.wrap (h : Int) = (h : Int) := IntWalk.i64_in _ (by omega)
        go_wp2_with fail
        refine (zero_any t h _ ht64 hh64).mono ?_
        rintro e w1 ⟨A1, n1', c1', rfl, hown1, hb1'⟩
        simp only at hown1 ⊢
        have hn1 : n1' = h * t := by have h1 := hown1.1; simp at h1; omega
        subst hn1
        obtain ⟨g, rfl, hg1, hg2, hgc⟩ := own_form hown1 (Nat.mul_pos hh1 ht1)
        have hR1 := hR.keep hb1'
        have hB1 := below_then S0.below hb1'
        have hown := own_base hown1 S0.size
        rw [← HF0.out] at hown
        clear hown1 hb1' hR S0 d1 d2 d3 d4
        go_wp2_with fail
        go_loopw [6] (fun i wr => ∃ k : Nat, k ≤ s.length ∧ i = .int .i64 k ∧ Hid (∀ j, j < k → GoodAt s t j) ∧
            Blk wr w1.heap.size 24 #[.int .i64 t, .int .i64 h, .slice (some ⟨g, 0, none⟩) (h * t) c1'] ∧
            Blk wr w.heap.size 24 #[.int .i64 0, .int .i64 0, .slice none 0 0] ∧
            wr.ownsRow w.heap.size 4 1 (.slice (some ⟨g, 0, none⟩) (h * t) c1') (h * t) ((fillB s t h k).map Value.bool) ∧ Below w.heap.size w wr)
          (fun i _ => s.length - (intOf i).toNat)
        case atStart => exact ⟨0, Nat.zero_le _, rfl, Lib.hid (fun _ h => absurd h (by omega)), by simpa using Blk.new _ _ _, hR1.alloc _, hown.alloc _, hB1.alloc hB1.size _⟩
        case round =>
          clear hown hR1 hB1
          obtain ⟨i, hi, rfl, HG, hO, hR, hown, hbel⟩ := hrel
          obtain ⟨z0, z1, z2⟩ := hO.cell3
          by_cases hlt : i < s.length
          · obtain ⟨hr1, hie, hxt⟩ := HSP.out i hlt
            have e1 : ((i : Nat) : Int).tmod ((t : Int) + 1) = ((i % (t + 1) : Nat) : Int) := by
              rw [Int.tmod_eq_emod_of_nonneg (by omega)]; exact (Int.natCast_emod _ _).symm
            have e2 : ((i : Nat) : Int) % ((t : Int) + 1) = ((i % (t + 1) : Nat) : Int) := (Int.natCast_emod _ _).symm
            have e3 : ((i : Nat) : Int).tdiv ((t : Int) + 1) = ((i / (t + 1) : Nat) : Int) := by
              rw [Int.tdiv_eq_ediv_of_nonneg (by omega)]; exact (Int.natCast_ediv _ _).symm
            have e4 : ((i : Nat) : Int) / ((t : Int) + 1) = ((i / (t + 1) : Nat) : Int) := (Int.natCast_ediv _ _).symm
            have hbi := HBy.out i hlt
            have hgi : s[i]? = some (s.getD i 0) := by rw [List.getD_eq_getElem?_getD, List.getElem?_eq_getElem hlt]; rfl
            have HGI := Lib.hid (show ((s.getD i 0 = 10 ↔ i % (t + 1) = t) ∧ (s.getD i 0 = 10 ∨ s.getD i 0 = 120 ∨ s.getD i 0 = 46)) ↔ GoodAt s t i from
              ⟨fun h => ⟨_, hgi, h.1, h.2⟩, fun ⟨u, hu, h1, h2⟩ => by rw [hgi] at hu; injection hu with hu; subst hu; exact ⟨h1, h2⟩⟩)
            have HK1 := Lib.hid (HFS.out i)
            have HK2 := Lib.hid (HFK.out i)
            have HGS := Lib.hid (fun (hg : GoodAt s t i) j (hj : j < i + 1) => show GoodAt s t j from by
              by_cases e : j = i
              · subst e; exact hg
              · exact HG.out j (by omega))
            have HBD := Lib.hid (fun (hg : ¬ GoodAt s t i) => HPB.out (fun q => hg (q.2 i hlt)))
            clear hie hgi HG
            have hb256 : (s.getD i 0).toNat < 256 := UInt8.toNat_lt _
            have hun : ∀ k : UInt8, s.getD i 0 = k ↔ (s.getD i 0).toNat = k.toNat := fun k => ⟨fun e => by rw [e], fun e => UInt8.toNat_inj.1 e⟩
            rw [hun 10, hun 120, hun 46] at HGI
            rw [hun 120] at HK1
            rw [Ne, hun 120] at HK2
            rw [show UInt8.toNat 10 = 10 from rfl, show UInt8.toNat 120 = 120 from rfl, show UInt8.toNat 46 = 46 from rfl] at HGI
            rw [show UInt8.toNat 120 = 120 from rfl] at HK1 HK2
            clear hun
            generalize (s.getD i 0).toNat = v at *
            generalize i % (t + 1) = x at *
            generalize i / (t + 1) = r at *
            obtain ⟨y, hy⟩ : ∃ y : Nat, h - 1 - r = y := ⟨_, rfl⟩
            have hyy : (h : Int) - 1 - (r : Int) = (y : Int) := by omega
            rw [hy] at HK1
            have k3 : IntKind.i64.wrap (x : Int) = (x : Int) := IntWalk.i64_in _ (by omega)
            have k4 : IntKind.i64.wrap (r : Int) = (r : Int) := IntWalk.i64_in _ (by omega)
            have k5 : IntKind.i64.wrap (y : Int) = (y : Int) := IntWalk.i64_in _ (by omega)
            have k6 : IntKind.i64.wrap ((h : Int) - 1) = (h : Int) - 1 := IntWalk.i64_in _ (by omega)
            have k7 : IntKind.i64.wrap ((t : Int) + 1) = (t : Int) + 1 := IntWalk.i64_in _ (by omega)
            go_wp2_with fail
            go_region
            clear e1 e2 e3 e4 k6 k7 hyy
            by_cases hx : x = t
            · subst hx
              by_cases hv : v = 10
              · subst hv
                have HG2 := HGS.out (HGI.out.1 ⟨by omega, by omega⟩)
                go_wp2_with fail
                go_roundw
                case rel => exact ⟨i + 1, by omega, by go_num, Lib.hid HG2, hO.drew, hR.drew, by rw [HK2.out (by omega)]; exact hown.drew, hbel.drew⟩
                case measure => simp [intOf]; omega
              · have hv1 : ((v : Int) == 10) = false := by simp; omega
                clear hO hown z0 z1 z2
                obtain ⟨c0, c1, c2⟩ := hR.cell3
                obtain ⟨f0, f1, f2⟩ := hR.frozen3
                obtain ⟨q0, q1, q2⟩ := (hR.set3 (.int .i64 0) (.int .i64 0) (.slice none 0 0)).cell3
                go_wp2_with fail
                refine bodyPost_ret (v := .tuple #[.agg #[.int .i64 0, .int .i64 0, .slice none 0 0], .int .i64 12]) (by simp [results, Tryd.results15, go_sem, q0, q1, q2]) rfl ?_
                exact bad_ret (HBD.out (fun q => by obtain ⟨g1, g2⟩ := HGI.out.2 q; first | omega | (simp at g1; done) | (simp at g1; omega))) (below_set3 hbel (Nat.le_refl _) _ _ _).drew
            · have hxe : ((x : Int) == (t : Int)) = false := by simp; omega
              by_cases hv : v = 10
              · subst hv
                clear hO hown z0 z1 z2
                obtain ⟨c0, c1, c2⟩ := hR.cell3
                obtain ⟨f0, f1, f2⟩ := hR.frozen3
                obtain ⟨q0, q1, q2⟩ := (hR.set3 (.int .i64 0) (.int .i64 0) (.slice none 0 0)).cell3
                go_wp2_with fail
                refine bodyPost_ret (v := .tuple #[.agg #[.int .i64 0, .int .i64 0, .slice none 0 0], .int .i64 12]) (by simp [results, Tryd.results15, go_sem, q0, q1, q2]) rfl ?_
                exact bad_ret (HBD.out (fun q => by obtain ⟨g1, g2⟩ := HGI.out.2 q; first | omega | (simp at g1; done) | (simp at g1; omega))) (below_set3 hbel (Nat.le_refl _) _ _ _).drew
              by_cases hv2 : v = 120
              · subst hv2
                have HG2 := HGS.out (HGI.out.1 ⟨by omega, by omega⟩)
                have HK3 := Lib.hid (HK1.out (by omega) hr1 rfl)
                have hyh : y < h := by omega
                have hxt2 : x < t := by omega
                go_wp2_with fail
                refine (set_any t h x y w.heap.size g c1' (fillB s t h i) h true _ ht64 hh64 hxt2 hyh hown.drew).mono ?_
                rintro e w3 ⟨rfl, hown3, hgr3⟩
                have hO3 := hO.drew.grown hgr3 (own_blk_ne hown.drew hO.drew (by decide))
                have hR3 := hR.drew.grown hgr3 (own_blk_ne hown.drew hR.drew (by decide))
                have hbel3 := hbel.drew.grown hgr3 hbel.drew.size (fun k hk => (hown.drew.lt k hk).1)
                rw [HK3.out] at hown3
                go_wp2_with fail
                go_roundw
                case rel => exact ⟨i + 1, by omega, by go_num, Lib.hid HG2, hO3, hR3, hown3, hbel3⟩
                case measure => simp [intOf]; omega
              by_cases hv3 : v = 46
              · subst hv3
                have HG2 := HGS.out (HGI.out.1 ⟨by omega, by omega⟩)
                go_wp2_with fail
                go_roundw
                case rel => exact ⟨i + 1, by omega, by go_num, Lib.hid HG2, hO.drew, hR.drew, by rw [HK2.out (by omega)]; exact hown.drew, hbel.drew⟩
                case measure => simp [intOf]; omega
              · have hv1 : ((v : Int) == 10) = false := by simp; omega
                have hv4 : ((v : Int) != 10) = true := by simp; omega
                have hv5 : ((v : Int) != 120) = true := by simp; omega
                have hv6 : ((v : Int) != 46) = true := by simp; omega
                clear hO hown z0 z1 z2
                obtain ⟨c0, c1, c2⟩ := hR.cell3
                obtain ⟨f0, f1, f2⟩ := hR.frozen3
                obtain ⟨q0, q1, q2⟩ := (hR.set3 (.int .i64 0) (.int .i64 0) (.slice none 0 0)).cell3
                go_wp2_with fail
                refine bodyPost_ret (v := .tuple #[.agg #[.int .i64 0, .int .i64 0, .slice none 0 0], .int .i64 12]) (by simp [results, Tryd.results15, go_sem, q0, q1, q2]) rfl ?_
                exact bad_ret (HBD.out (fun q => by obtain ⟨g1, g2⟩ := HGI.out.2 q; first | omega | (simp at g1; done) | (simp at g1; omega))) (below_set3 hbel (Nat.le_refl _) _ _ _).drew
          · obtain rfl : i = s.length := by omega
            have HP := Lib.hid (HPO2.out HG.out)
            obtain ⟨r0, r1, r2⟩ := hR.cell3
            obtain ⟨f0, f1, f2⟩ := hR.frozen3
            obtain ⟨q0, q1, q2⟩ := (hR.set3 (.int .i64 t) (.int .i64 h) (.slice (some ⟨g, 0, none⟩) (h * t) c1')).cell3
            go_wp2_with fail
            refine bodyPost_ret (v := .tuple #[.agg #[.int .i64 t, .int .i64 h, .slice (some ⟨g, 0, none⟩) (h * t) c1'], .int .i64 0]) (by simp [results, Tryd.results15, go_sem, q0, q1, q2]) rfl ?_
            refine ⟨_, _, _, by rw [HP.out], ?_, below_set3 hbel (Nat.le_refl _) _ _ _⟩
            rw [HP.out]
            exact own_set3 hown hR (by decide) _ _ _

theorem rparse_any (s : List UInt8) (w : World) (hs : s.length ≤ 5000) : Calls Tryd.prog 15 #[str s] w (RetG (parseG s) w) := by
  by_cases h : ∀ j, j < s.length → s[j]? ≠ some 10
  · exact rparse_nofeed s w hs h
  · have hex : ∃ T, T < s.length ∧ s[T]? = some 10 := by
      refine Classical.byContradiction fun hn => h fun j hj e => hn ⟨j, hj, e⟩
    obtain ⟨T0, hT0⟩ := hex
    obtain ⟨T, ⟨h1, h2⟩, hmin⟩ := first_ex (P := fun T => T < s.length ∧ s[T]? = some 10) T0 hT0
    exact rparse_feed s T w hs h1 (fun j hj e => hmin j hj ⟨by omega, e⟩) h2
end Go.Proofs.YtebbcpeldncekaaDoor
