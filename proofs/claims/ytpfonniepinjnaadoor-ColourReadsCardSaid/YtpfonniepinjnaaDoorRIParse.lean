/- raddleref14.Parse reads the text of an image. -/
import Derived.Test.YtpfonniepinjnaaDoorRIParP
import Derived.Test.YtpfonniepinjnaaDoorStrC
import Derived.Test.YtpfonniepinjnaaDoorInfoI
import Derived.Test.YtpfonniepinjnaaDoorMvDef
import Derived.IntWalk
import Derived.Deep.RegionLaw
import Derived.Laws.BitsLemmas
import Derived.Maps.AppendAt
import Derived.RangeFuncBox
namespace Go.Proofs.YtpfonniepinjnaaDoor
open Go.RowKit

theorem first_ex {P : Nat → Prop} : ∀ n, P n → ∃ n, P n ∧ ∀ m, m < n → ¬ P m := fun n => by
  induction n using Nat.strongRecOn with
  | ind n ih =>
    intro hn
    by_cases h : ∃ m, m < n ∧ P m
    · obtain ⟨m, hm, hp⟩ := h
      exact ih m hm hp
    · exact ⟨n, hn, fun m hm hp => h ⟨m, hm, hp⟩⟩
theorem byte_at {l : List UInt8} {x : Nat} (hx : x < l.length) (hp : x < (⟨l.toArray⟩ : ByteArray).size) : ((⟨l.toArray⟩ : ByteArray)[x]'hp).toNat = (l.getD x 0).toNat := by
  have e : (⟨l.toArray⟩ : ByteArray)[x]'hp = l.getD x 0 := by
    rw [List.getD_eq_getElem?_getD, List.getElem?_eq_getElem hx]
    rfl
  rw [e]
theorem byte_ne {l : List UInt8} {x : Nat} (hx : x < l.length) {k : UInt8} : l[x]? ≠ some k ↔ (l.getD x 0).toNat ≠ k.toNat := by
  rw [List.getD_eq_getElem?_getD, List.getElem?_eq_getElem hx, Option.getD_some]
  constructor
  · intro h e; exact h (by rw [UInt8.toNat_inj.1 e])
  · intro h e; injection e with e; exact h (by rw [e])

set_option maxHeartbeats 2000000 in
set_option maxRecDepth 100000 in
theorem riparse_nofeed (s : List UInt8) (w : World) (hs : s.length ≤ 5000) (hn : ∀ j, j < s.length → s[j]? ≠ some 10) : Calls Tryd.prog 7 #[str s] w (RetI (parseI s) w) := by
  have hp : parseI s = (Im.zero, 12) := by
    refine ref_bad (t := s.length) ⟨hn, fun h => absurd h (by omega), Nat.le_refl _⟩ ?_
    rintro ⟨⟨h1, h2, h3, h4⟩, _⟩
    rw [Nat.mod_eq_of_lt (by omega)] at h3
    omega
  rw [hp]
  have S0 := (St.start w).box #[.int .i64 0, .int .i64 0, .slice none 0 0] 24
  simp only [List.nil_append] at S0
  have hsz := size_list s
  have HN := Lib.hid (fun j hj => (byte_ne (k := 10) hj).1 (hn j hj))
  have HBy := Lib.hid (fun x hx hp => byte_at (l := s) (x := x) hx hp)
  clear hp hn
  go_enter Tryd.func7, Tryd.ntmps7
  go_wp2_with fail
  go_loopw [4] (fun i wr => ∃ t : Nat, t ≤ s.length ∧ i = .int .i64 t ∧ wr = w.alloc (.cells #[.int .i64 0, .int .i64 0, .slice none 0 0] 24)) (fun i _ => s.length - (intOf i).toNat)
  case atStart => exact ⟨0, Nat.zero_le _, rfl, rfl⟩
  case round =>
    obtain ⟨t, ht, rfl, rfl⟩ := hrel
    by_cases hlt : t < s.length
    · have hb := HBy.out t hlt
      have hne := HN.out t hlt
      have hb2 : (s.getD t 0).toNat < 256 := UInt8.toNat_lt _
      generalize (s.getD t 0).toNat = v at *
      have hne1 : v ≠ 10 := hne
      have hne2 : ((v : Int) != 10) = true := by simp; omega
      clear hne
      go_wp2_with fail
      go_roundw
      case rel => exact ⟨t + 1, by omega, by go_num, by trivial⟩
      case measure => simp [intOf]; omega
    · obtain rfl : t = s.length := by omega
      have hR := S0.blk 0 rfl
      obtain ⟨c0, c1, c2⟩ := hR.cell3

      have d1 : ((s.length : Nat) : Int).tmod ((s.length : Int) + 1) = (s.length : Int) := by
        rw [Int.tmod_eq_emod_of_nonneg (by omega)]; exact Int.emod_eq_of_lt (by omega) (by omega)
      have d2 : ((s.length : Nat) : Int) % ((s.length : Int) + 1) = (s.length : Int) := Int.emod_eq_of_lt (by omega) (by omega)
      generalize s.length = L at *
      have n1 : ¬ ((L : Int) + 1) = 0 := by omega
      by_cases h1 : L < 1
      · go_wp2_with fail
        refine bodyPost_ret (v := .tuple #[.agg #[.int .i64 0, .int .i64 0, .slice none 0 0], .int .i64 12]) (by simp [results, Tryd.results7, go_sem]) rfl ?_
        exact bad_retI rfl S0.below
      by_cases h2 : 64 < L
      · go_wp2_with fail
        refine bodyPost_ret (v := .tuple #[.agg #[.int .i64 0, .int .i64 0, .slice none 0 0], .int .i64 12]) (by simp [results, Tryd.results7, go_sem]) rfl ?_
        exact bad_retI rfl S0.below
      have n2 : ¬ (L : Int) = 0 := by omega
      go_wp2_with fail
      refine bodyPost_ret (v := .tuple #[.agg #[.int .i64 0, .int .i64 0, .slice none 0 0], .int .i64 12]) (by simp [results, Tryd.results7, go_sem]) rfl ?_
      exact bad_retI rfl S0.below


/-- What the reference's Parse has in memory. -/
structure PR (w : World) (t h : Nat) (A : Option Addr) (T cp : Nat) (cs : List Int) (W : World) : Prop where
  res : Blk W w.heap.size 24 #[.int .i64 0, .int .i64 0, .slice none 0 0]
  img : Blk W (w.heap.size + 1) 24 #[.int .i64 t, .int .i64 h, .slice A T cp]
  own : W.ownsRow w.heap.size 3 1 (.slice A T cp) T (cs.map (Value.int .i64))
  below : Below w.heap.size w W
theorem PR.app {w W w3 : World} {t h T cp g' cp' : Nat} {A : Option Addr} {cs : List Int} {x : Int} (k : PR w t h A T cp cs W) (o : Obj)
    (hown3 : w3.ownsRow w.heap.size 3 1 (.slice (some ⟨g', 0, none⟩) (T + 1) cp') (T + 1) (cs.map (Value.int .i64) ++ [.int .i64 x])) (hgr : (W.alloc o).grownBy w3 (Value.slice A T cp).ownBlock) :
    PR w t h (some ⟨g', 0, none⟩) (T + 1) cp' (cs ++ [x]) (w3.setCell ⟨w.heap.size + 1, 2, none⟩ (.slice (some ⟨g', 0, none⟩) (T + 1) cp')) := by
  have a1 := Blk.grown (k.res.alloc o) hgr (own_blk_ne k.own k.res (by decide))
  have a4 := Blk.grown (k.img.alloc o) hgr (own_blk_ne k.own k.img (by decide))
  have b3 := Below.grown (k.below.alloc k.below.size o) hgr (by have := k.below.size; simp; omega) (fun j hj => (k.own.lt j hj).1)
  refine ⟨a1.far (by simp) _, by simpa using a4.set_ 2 _, ?_, b3.setCell (by simp) _⟩
  rw [List.map_append]
  exact own_far hown3 (own_blk_ne hown3 a4 (by decide)) _
theorem good_at {s : List UInt8} {t h y x : Nat} (hL : s.length = h * (t + 1)) (hy : y < h) (hx : x ≤ t) : y * (t + 1) + x < s.length ∧
    (((x = t → (s.getD (y * (t + 1) + x) 0).toNat = 10) ∧ (x ≠ t → 97 ≤ (s.getD (y * (t + 1) + x) 0).toNat ∧ (s.getD (y * (t + 1) + x) 0).toNat ≤ 112)) ↔ GoodC s t (y * (t + 1) + x)) ∧ True := by
  have hi : y * (t + 1) + x < s.length := by
    rw [hL]
    have := Nat.mul_le_mul_right (t + 1) (show y + 1 ≤ h by omega)
    rw [Nat.succ_mul] at this
    omega
  have hmod : (y * (t + 1) + x) % (t + 1) = x := by rw [Nat.mul_comm, Nat.mul_add_mod]; exact Nat.mod_eq_of_lt (by omega)
  have hg : s[y * (t + 1) + x]? = some (s.getD (y * (t + 1) + x) 0) := by rw [List.getD_eq_getElem?_getD, List.getElem?_eq_getElem hi]; rfl
  refine ⟨hi, ⟨fun h => ⟨_, hg, by rw [hmod]; exact h.1, by rw [hmod]; exact h.2⟩, ?_⟩, trivial⟩
  rintro ⟨u, hu, h1, h2⟩
  rw [hg] at hu
  injection hu with hu
  subst hu
  rw [hmod] at h1 h2
  exact ⟨h1, h2⟩
theorem St.worldF {w w1 : World} {L : List Fact} (_ : St w L w1) : ∃ x, x = w1 := ⟨w1, rfl⟩
set_option maxHeartbeats 4000000 in
set_option maxRecDepth 100000 in
theorem riparse_feed (s : List UInt8) (T : Nat) (w : World) (hs : s.length ≤ 5000) (hT : T < s.length) (hn : ∀ j, j < T → s[j]? ≠ some 10) (hf : s[T]? = some 10) : Calls Tryd.prog 7 #[str s] w (RetI (parseI s) w) := by
  have hF : First s T := ⟨hn, fun _ => hf, Nat.le_of_lt hT⟩
  have HPB := Lib.hid (fun h : ¬ (Shape s T ∧ ∀ i, i < s.length → GoodC s T i) => ref_bad hF h)
  have HPO := Lib.hid (fun h1 h2 => ref_ok (s := s) (t := T) h1 h2 (by omega))
  obtain ⟨i0, hi, hz0, hz1, hz2⟩ := info_parts Tryd.infoI
  have S0 := (St.start w).box #[.int .i64 0, .int .i64 0, .slice none 0 0] 24
  simp only [List.nil_append] at S0
  have hsz := size_list s
  have HN := Lib.hid (fun j hj => (byte_ne (k := 10) (Nat.lt_trans hj hT)).1 (hn j hj))
  have HBy := Lib.hid (fun x hx hp => byte_at (l := s) (x := x) hx hp)
  have HT := Lib.hid (show (s.getD T 0).toNat = 10 by rw [List.getD_eq_getElem?_getD, hf]; rfl)
  clear hn hf hF
  go_enter Tryd.func7, Tryd.ntmps7
  go_wp2_with fail
  go_loopw [4] (fun i wr => ∃ t : Nat, t ≤ T ∧ i = .int .i64 t ∧ wr = w.alloc (.cells #[.int .i64 0, .int .i64 0, .slice none 0 0] 24)) (fun i _ => T - (intOf i).toNat)
  case atStart => exact ⟨0, Nat.zero_le _, rfl, rfl⟩
  case round =>
    obtain ⟨t, ht, rfl, rfl⟩ := hrel
    by_cases hlt : t < T
    · have hb := HBy.out t (by omega)
      have hne := HN.out t hlt
      have hb2 : (s.getD t 0).toNat < 256 := UInt8.toNat_lt _
      generalize (s.getD t 0).toNat = v at *
      have hne1 : v ≠ 10 := hne
      have hne2 : ((v : Int) != 10) = true := by simp; omega
      clear hne
      go_wp2_with fail
      go_roundw
      case rel => exact ⟨t + 1, by omega, by go_num, by trivial⟩
      case measure => simp [intOf]; omega
    · obtain rfl : t = T := by omega
      have hR := S0.blk 0 rfl
      have hb := HBy.out t hT
      rw [HT.out] at hb
      have hlL : Hid (∀ L, L = s.length → L = L / (t + 1) * (t + 1) + L % (t + 1)) := Lib.hid (fun L _ => by have := Nat.div_add_mod L (t + 1); rw [Nat.mul_comm] at this; omega)
      have d1 : ((s.length : Nat) : Int).tmod ((t : Int) + 1) = ((s.length % (t + 1) : Nat) : Int) := by
        rw [Int.tmod_eq_emod_of_nonneg (by omega)]; exact (Int.natCast_emod _ _).symm
      have d2 : ((s.length : Nat) : Int) % ((t : Int) + 1) = ((s.length % (t + 1) : Nat) : Int) := (Int.natCast_emod _ _).symm
      have d3 : ((s.length : Nat) : Int).tdiv ((t : Int) + 1) = ((s.length / (t + 1) : Nat) : Int) := by
        rw [Int.tdiv_eq_ediv_of_nonneg (by omega)]; exact (Int.natCast_ediv _ _).symm
      have d4 : ((s.length : Nat) : Int) / ((t : Int) + 1) = ((s.length / (t + 1) : Nat) : Int) := (Int.natCast_ediv _ _).symm
      have n1 : ¬ ((t : Int) + 1) = 0 := by omega
      have HSh := Lib.hid (show Shape s t ↔ 1 ≤ t ∧ t ≤ 64 ∧ s.length % (t + 1) = 0 ∧ s.length / (t + 1) ≤ 64 from Iff.rfl)
      have hdL : s.length / (t + 1) ≤ s.length := Nat.div_le_self _ _
      have hmL : s.length % (t + 1) ≤ s.length := Nat.mod_le _ _
      by_cases hbad : ¬ (1 ≤ t ∧ t ≤ 64 ∧ s.length % (t + 1) = 0 ∧ s.length / (t + 1) ≤ 64)
      · have HP := Lib.hid (HPB.out (fun h => hbad (HSh.out.1 h.1)))
        obtain ⟨c0, c1, c2⟩ := hR.cell3

        generalize s.length % (t + 1) = m at *
        generalize s.length / (t + 1) = h at *
        have k1 : IntKind.i64.wrap (m : Int) = (m : Int) := IntWalk.i64_in _ (by omega)
        have k2 : IntKind.i64.wrap (h : Int) = (h : Int) := IntWalk.i64_in _ (by omega)
        by_cases h1 : t < 1
        · clear hbad
          go_wp2_with fail
          refine bodyPost_ret (v := .tuple #[.agg #[.int .i64 0, .int .i64 0, .slice none 0 0], .int .i64 12]) (by simp [results, Tryd.results7, go_sem]) rfl ?_
          exact bad_retI HP.out S0.below
        by_cases h2 : 64 < t
        · clear hbad
          go_wp2_with fail
          refine bodyPost_ret (v := .tuple #[.agg #[.int .i64 0, .int .i64 0, .slice none 0 0], .int .i64 12]) (by simp [results, Tryd.results7, go_sem]) rfl ?_
          exact bad_retI HP.out S0.below
        by_cases h3 : m ≠ 0
        · have h4 : ((m : Int) != 0) = true := by simp; omega
          clear hbad
          go_wp2_with fail
          refine bodyPost_ret (v := .tuple #[.agg #[.int .i64 0, .int .i64 0, .slice none 0 0], .int .i64 12]) (by simp [results, Tryd.results7, go_sem]) rfl ?_
          exact bad_retI HP.out S0.below
        · obtain rfl : m = 0 := by omega
          have h4 : 64 < h := by omega
          clear hbad
          go_wp2_with fail
          refine bodyPost_ret (v := .tuple #[.agg #[.int .i64 0, .int .i64 0, .slice none 0 0], .int .i64 12]) (by simp [results, Tryd.results7, go_sem]) rfl ?_
          exact bad_retI HP.out S0.below
      · have hok : 1 ≤ t ∧ t ≤ 64 ∧ s.length % (t + 1) = 0 ∧ s.length / (t + 1) ≤ 64 := Decidable.not_not.1 hbad
        clear hbad
        have HSH := Lib.hid (HSh.out.2 hok)
        obtain ⟨ht1, ht64, hm0, hh64⟩ := hok
        have HLL := Lib.hid (show s.length = s.length / (t + 1) * (t + 1) by have := hlL.out _ rfl; omega)
        have hh1 : 1 ≤ s.length / (t + 1) := by
          rcases Nat.eq_zero_or_pos (s.length / (t + 1)) with e | e
          · have := HLL.out; rw [e] at this; omega
          · exact e
        have hL0 := Lib.hid HLL.out
        have HSP := Lib.hid (fun i hi => split_at (t := t) (h := s.length / (t + 1)) (i := i) hi HLL.out)
        have HPO2 := Lib.hid (fun h2 => HPO.out HSH.out h2)
        clear HPO hlL HSh
        rw [hm0] at d1 d2
        generalize s.length / (t + 1) = h at *
        have k2 : IntKind.i64.wrap (h : Int) = (h : Int) := IntWalk.i64_in _ (by omega)
        have k3 : IntKind.i64.wrap ((h : Int) - 1) = (h : Int) - 1 := IntWalk.i64_in _ (by omega)
        have b1 : ((t : Int) == 0) = false := by simp; omega
        have b2 : decide ((64 : Int) < (t : Int)) = false := by simp; omega
        have b3 : decide ((64 : Int) < (h : Int)) = false := by simp; omega
        have S1 := S0.box #[.int .i64 t, .int .i64 h, .slice none 0 0] 24
        simp only [size_alloc1, List.nil_append, List.cons_append] at S1
        go_wp2_with fail
        obtain ⟨W1, hW1⟩ := St.worldF S1
        rw [← hW1] at S1 ⊢
        clear hW1 S0 hR d1 d2 d3 d4 b1 b2 b3 hb
        have hP0 : PR w t h none 0 0 [] W1 := ⟨S1.blk 0 rfl, S1.blk 1 rfl, World.ownsRow_nil _ _ _ _, S1.below⟩
        clear S1
        go_loopw [6] (fun i wr => ∃ (j cp : Nat) (A : Option Addr), j ≤ h ∧ i = .int .i64 ((h : Int) - 1 - (j : Int)) ∧ PR w t h A (j * t) cp (doneC s t h j) wr ∧ Hid (∀ r x, h - j ≤ r → r < h → x ≤ t → GoodC s t (r * (t + 1) + x)))
          (fun i _ => (intOf i + 1).toNat)
        case atStart => exact ⟨0, 0, none, Nat.zero_le _, by simp, by simpa [doneC] using hP0, Lib.hid (fun r x h1 h2 => absurd h1 (by omega))⟩
        case round =>
          clear hP0 W1
          obtain ⟨j, cp, A, hj, rfl, hP, HG⟩ := hrel
          by_cases hlt : j < h
          · have hm : (h : Int) - 1 - (j : Int) = ((h - 1 - j : Nat) : Int) := by omega
            have hm6 : ((h - 1 - j : Nat) : Int) - 1 = (h : Int) - 1 - ((j + 1 : Nat) : Int) := by omega
            have HDS := Lib.hid (doneC_succ s t h j)
            have HDL := Lib.hid (doneC_len s t h j)
            obtain ⟨y, hy⟩ : ∃ y, h - 1 - j = y := ⟨_, rfl⟩
            rw [hy] at hm hm6 HDS
            have hyh : y < h := by omega
            have hw1 : IntKind.i64.wrap ((y : Int) - 1) = (y : Int) - 1 := by rw [IntKind.wrap_i64]; omega
            rw [hm]
            go_wp2_with fail
            obtain ⟨J, hJ⟩ : ∃ J, j * t = J := ⟨_, rfl⟩
            rw [hJ] at hP HDL
            have hJb : J ≤ 64 * 64 := by rw [← hJ]; exact Nat.mul_le_mul (by omega) ht64
            generalize doneC s t h j = D at *
            have HGI := Lib.hid (fun x (hx : x ≤ t) => good_at (s := s) hL0.out hyh hx)
            have HR0 := Lib.hid (fun x => rowC_succ s t y x)
            have hRz : rowC s t y 0 = [] := rfl
            go_loopw [7] (fun i wr => ∃ (x cp : Nat) (A : Option Addr), x ≤ t + 1 ∧ i = .int .i64 x ∧ PR w t h A (J + min x t) cp (D ++ rowC s t y (min x t)) wr ∧ Hid (∀ k, k < x → GoodC s t (y * (t + 1) + k)))
              (fun i _ => t + 1 - (intOf i).toNat)
            case atStart => exact ⟨0, cp, A, Nat.zero_le _, rfl, by simpa [hRz] using hP, Lib.hid (fun k hk => absurd hk (by omega))⟩
            case round =>
              clear hP
              obtain ⟨x, cp, A, hx, rfl, hP, HGk⟩ := hrel
              by_cases hxt : x < t + 1
              · obtain ⟨hpl, HGx, _⟩ := HGI.out x (by omega)
                obtain ⟨q, hq⟩ : ∃ q, y * (t + 1) = q := ⟨_, rfl⟩
                have hqi : (y : Int) * ((t : Int) + 1) = (q : Int) := by rw [← hq]; push_cast; rfl
                rw [hq] at hpl HGx
                have e1 : IntKind.i64.wrap (q : Int) = (q : Int) := wrap_small _ (by omega) (by omega)
                have e2 : IntKind.i64.wrap ((q : Int) + (x : Int)) = (q : Int) + (x : Int) := wrap_small _ (by omega) (by omega)
                have e3 : IntKind.i64.wrap ((t : Int) + 1) = (t : Int) + 1 := wrap_small _ (by omega) (by omega)
                have e4 : IntKind.i64.wrap ((x : Int) + 1) = (x : Int) + 1 := wrap_small _ (by omega) (by omega)
                have e5 : ((q : Int) + (x : Int)).toNat = q + x := by omega
                have e6 : (0 : Int) ≤ (q : Int) + (x : Int) := by omega
                have e7 : (q : Int) + (x : Int) < (s.length : Int) := by omega
                have hbi := HBy.out (q + x) hpl
                have hb256 : (s.getD (q + x) 0).toNat < 256 := UInt8.toNat_lt _
                have HRs := Lib.hid (HR0.out x)
                rw [hq] at HRs
                generalize (s.getD (q + x) 0).toNat = v at *
                have HB := Lib.hid (fun hg : ¬ GoodC s t (q + x) => HPB.out (fun k => hg (k.2 _ hpl)))
                have HGS := Lib.hid (fun (hg : GoodC s t (q + x)) k (hk : k < x + 1) => show GoodC s t (y * (t + 1) + k) from by
                  by_cases e : k = x
                  · subst e; rw [hq]; exact hg
                  · exact HGk.out k (by omega))
                have HGX := Lib.hid HGx
                clear HGx
                by_cases hxe : x = t
                · subst hxe
                  have b1 : ((x : Int) == (x : Int)) = true := by simp
                  have b2 : decide ((x : Int) < (x : Int)) = false := by simp
                  by_cases hv : v = 10
                  · subst hv
                    have HG2 := Lib.hid (HGS.out (HGX.out.1 ⟨fun _ => rfl, fun h => absurd rfl h⟩))
                    clear HGS HGX HB
                    have hmin : min x x = x := Nat.min_self x
                    have hmin2 : min (x + 1) x = x := by omega
                    rw [hmin] at hP
                    go_wp2_with fail
                    go_roundw
                    case rel => exact ⟨x + 1, cp, A, by omega, by go_num, by rw [hmin2]; exact hP, HG2⟩
                    case measure => first | (simp [intOf]; done) | (simp [intOf]; omega)
                  · have hng : ¬ GoodC s x (q + x) := fun h => hv ((HGX.out.2 h).1 rfl)
                    have b3 : ((v : Int) != 10) = true := by first | (simp; done) | (simp; omega)
                    clear HGk HRs
                    obtain ⟨r0, r1, r2⟩ := hP.res.cell3
                    obtain ⟨f0, f1, f2⟩ := hP.res.frozen3
                    obtain ⟨q0, q1, q2⟩ := (hP.res.set3 (.int .i64 0) (.int .i64 0) (.slice none 0 0)).cell3
                    go_wp2_with fail
                    refine bodyPost_ret (v := .tuple #[.agg #[.int .i64 0, .int .i64 0, .slice none 0 0], .int .i64 12]) (by simp [results, Tryd.results7, go_sem, q0, q1, q2]) rfl ?_
                    exact bad_retI (HB.out hng) (below_set3 hP.below (Nat.le_refl _) _ _ _)
                · have hxl : x < t := by omega
                  have b1 : ((x : Int) == (t : Int)) = false := by first | (simp; done) | (simp; omega)
                  have b2 : decide ((x : Int) < (t : Int)) = true := by first | (simp; done) | (simp; omega)
                  have b2' : (x : Int) < (t : Int) := by omega
                  by_cases hv : v < 97
                  · have hng : ¬ GoodC s t (q + x) := fun h => by have := (HGX.out.2 h).2 hxe; omega
                    have b3 : decide ((v : Int) < 97) = true := by simp; omega
                    clear HGk HRs
                    obtain ⟨r0, r1, r2⟩ := hP.res.cell3
                    obtain ⟨f0, f1, f2⟩ := hP.res.frozen3
                    obtain ⟨q0, q1, q2⟩ := (hP.res.set3 (.int .i64 0) (.int .i64 0) (.slice none 0 0)).cell3
                    go_wp2_with fail
                    refine bodyPost_ret (v := .tuple #[.agg #[.int .i64 0, .int .i64 0, .slice none 0 0], .int .i64 12]) (by simp [results, Tryd.results7, go_sem, q0, q1, q2]) rfl ?_
                    exact bad_retI (HB.out hng) (below_set3 hP.below (Nat.le_refl _) _ _ _)
                  by_cases hv2 : 112 < v
                  · have hng : ¬ GoodC s t (q + x) := fun h => by have := (HGX.out.2 h).2 hxe; omega
                    have b3 : decide ((v : Int) < 97) = false := by simp; omega
                    have b4 : decide (112 < (v : Int)) = true := by simp; omega
                    clear HGk HRs
                    obtain ⟨r0, r1, r2⟩ := hP.res.cell3
                    obtain ⟨f0, f1, f2⟩ := hP.res.frozen3
                    obtain ⟨q0, q1, q2⟩ := (hP.res.set3 (.int .i64 0) (.int .i64 0) (.slice none 0 0)).cell3
                    go_wp2_with fail
                    refine bodyPost_ret (v := .tuple #[.agg #[.int .i64 0, .int .i64 0, .slice none 0 0], .int .i64 12]) (by simp [results, Tryd.results7, go_sem, q0, q1, q2]) rfl ?_
                    exact bad_retI (HB.out hng) (below_set3 hP.below (Nat.le_refl _) _ _ _)
                  have HG2 := Lib.hid (HGS.out (HGX.out.1 ⟨fun h => absurd h hxe, fun _ => ⟨by omega, by omega⟩⟩))
                  have b3 : decide ((v : Int) < 97) = false := by simp; omega
                  have b4 : decide (112 < (v : Int)) = false := by simp; omega
                  clear HGS HGX HB
                  have hmin : min x t = x := by omega
                  have hmin2 : min (x + 1) t = x + 1 := by omega
                  rw [hmin] at hP
                  have w1 : IntKind.u8.wrap ((v : Int) - 97) = (v : Int) - 97 := by rw [IntKind.wrap_u8]; omega
                  have w2 : IntKind.i64.wrap ((v : Int) - 97) = (v : Int) - 97 := wrap_small _ (by omega) (by omega)
                  obtain ⟨m0, m1, m2⟩ := hP.img.cell3
                  have hsz3 := hP.below.size
                  have hApp := Lib.hid (fun o w3 g' cp' z h1 h2 => PR.app hP o (w3 := w3) (g' := g') (cp' := cp') (x := z) h1 h2)
                  have hOa := Lib.hid (fun o => hP.own.alloc o)
                  have hGa := Lib.hid (fun o w3 (h : (wr.alloc o).grownBy w3 (Value.slice A (J + x) cp).ownBlock) => Blk.grown (hP.img.alloc o) h (own_blk_ne hP.own hP.img (by decide)))
                  clear hP HGk
                  generalize rowC s t y x = rc at *
                  go_wp2_with (at_builtin; refine wpList_append_own _ rfl _ _ 22 rfl w.heap.size 3 i0 (.int .i64 0) 1 8 Tryd.underlying22 hi hz0 hz1 hz2 rfl (by decide) _ _ _ rfl (hOa.out _) ⟨wr.heap.size, 0, none⟩ 1 1 [.int .i64 ((v : Int) - 97)] rfl rfl (cell_one_new _ _ _) (by simp [Value.oneCell']) (by unfold maxLen; omega) (by omega) (by simp; omega) ?_; intro v' w3 hown3 hgr3 _; obtain ⟨g', cp', rfl⟩ := ownsRow_succ hown3; have hG3 := hGa.out _ _ hgr3; have hg1 := hG3.cell 2; have hg2 := hG3.frozen 2)
                  go_roundw
                  case rel =>
                    refine ⟨x + 1, cp', some ⟨g', 0, none⟩, by omega, by push_cast; rfl, ?_, HG2⟩
                    rw [hmin2, HRs.out, ← List.append_assoc, ← Nat.add_assoc]
                    exact hApp.out _ _ _ _ _ hown3 hgr3
                  case measure => simp [intOf]; omega
              · have hxe : x = t + 1 := by omega
                subst hxe
                rw [show min (t + 1) t = t by omega] at hP
                have hw2 : ((t : Int) + 1 ≤ (t : Int)) = False := by simp; omega
                have hw3 : decide (((t + 1 : Nat) : Int) ≤ (t : Int)) = false := by simp; omega
                go_wp2_with fail
                go_roundw
                case rel =>
                  refine ⟨j + 1, cp, A, by omega, by push_cast; rfl, ?_, Lib.hid (fun r x h1 h2 h3 => ?_)⟩
                  · rw [HDS.out, Nat.succ_mul, hJ]; exact hP
                  · by_cases e : r = y
                    · subst e; exact HGk.out x (by omega)
                    · exact HG.out r x (by omega) h2 h3
                case measure => simp [intOf]; omega
          · have hjh : j = h := by omega
            subst hjh
            have hm : (j : Int) - 1 - (j : Int) = -1 := by omega
            rw [hm]
            have HP := Lib.hid (HPO2.out (fun i hi => by
              obtain ⟨k1, k2, k3⟩ := HSP.out i hi
              rw [k2]
              exact HG.out _ _ (by rw [Nat.sub_self]; exact Nat.zero_le _) k1 k3))
            obtain ⟨m0, m1, m2⟩ := hP.img.cell3
            obtain ⟨r0, r1, r2⟩ := hP.res.cell3
            obtain ⟨f0, f1, f2⟩ := hP.res.frozen3
            obtain ⟨q0, q1, q2⟩ := (hP.res.set3 (.int .i64 t) (.int .i64 j) (.slice A (j * t) cp)).cell3
            go_wp2_with fail
            refine bodyPost_ret (v := .tuple #[.agg #[.int .i64 t, .int .i64 j, .slice A (j * t) cp], .int .i64 0]) (by simp [results, Tryd.results7, go_sem, q0, q1, q2]) rfl ?_
            refine ⟨_, _, _, by rw [HP.out], ?_, below_set3 hP.below (Nat.le_refl _) _ _ _⟩
            rw [HP.out]
            exact own_set3 hP.own hP.res (by decide) _ _ _

theorem riparse_any (s : List UInt8) (w : World) (hs : s.length ≤ 5000) : Calls Tryd.prog 7 #[str s] w (RetI (parseI s) w) := by
  by_cases h : ∀ j, j < s.length → s[j]? ≠ some 10
  · exact riparse_nofeed s w hs h
  · have hex : ∃ T, T < s.length ∧ s[T]? = some 10 := by
      refine Classical.byContradiction fun hn => h fun j hj e => hn ⟨j, hj, e⟩
    obtain ⟨T0, hT0⟩ := hex
    obtain ⟨T, ⟨h1, h2⟩, hmin⟩ := first_ex (P := fun T => T < s.length ∧ s[T]? = some 10) T0 hT0
    exact riparse_feed s T w hs h1 (fun j hj e => hmin j hj ⟨by omega, e⟩) h2
end Go.Proofs.YtpfonniepinjnaaDoor
