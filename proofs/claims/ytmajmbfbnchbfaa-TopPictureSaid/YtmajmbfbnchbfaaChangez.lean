/- reduce.Change: the grid changed by a grouping of its ends, and the cost. -/
import Derived.Test.YtmajmbfbnchbfaaMg6z
import Derived.Test.YtmajmbfbnchbfaaMg7z
import Derived.Test.YtmajmbfbnchbfaaMg2z
import Derived.Test.YtmajmbfbnchbfaaMg3z
import Derived.Deep.RegionHeld3
namespace Go.Proofs.Ytmajmbfbnchbfaa
open Go.RowKit Go.Maps

theorem bit_cell {w : World} {b o n i : Nat} {l : List Bool} (h : Rd w (some ⟨b, o, none⟩) n (l.map Value.bool)) (hi : i < n) : w.cell? ⟨b, o + i, none⟩ = some (.bool (l.getD i false)) := by
  have hl : l.length = n := by simpa using h.len
  exact h.lit i _ (by rw [List.getElem?_map, List.getElem?_eq_getElem (by omega)]; simp [List.getD, show i < l.length by omega])
/-- What Change hands back of a grid and a grouping that fit. -/
def ChgR (a h : Nat) (bs : List Bool) (l : List Int) (w : World) (e : Ending) (w' : World) : Prop :=
  ∃ A n c, e = .returned (.tuple #[.agg #[.int .i64 a, .int .i64 h, .slice A n c], .int .i64 (costL a h bs l), .int .i64 0]) ∧ w'.ownsRow w.heap.size 4 1 (.slice A n c) n ((chgL a h bs l).map Value.bool) ∧ Below w.heap.size w w'
set_option linter.unusedVariables false in
set_option maxHeartbeats 4000000 in
set_option maxRecDepth 100000 in
theorem change_any (a h : Nat) (bs : List Bool) (l : List Int) (A : Option Addr) (n c b o cl : Nat) (w : World) (ha1 : 1 ≤ a) (ha : a ≤ 64) (hh1 : 1 ≤ h) (hh : h ≤ 64) (hl : bs.length = h * a) (hr : Rd w A n (bs.map Value.bool)) (hnc : n ≤ c)
    (hll : l.length = a) (hrl : Rd w (some ⟨b, o, none⟩) a (l.map (Value.int .i64))) (hx : ∀ x ∈ l, 0 ≤ x ∧ x < 400) :
    Calls Try.prog 37 #[.agg #[.int .i64 a, .int .i64 h, .slice A n c], .slice (some ⟨b, o, none⟩) a cl] w (ChgR a h bs l w) := by
  obtain ⟨i0, hi, hz0, hz1, hz2⟩ := info_parts Try.infoB
  have hn : n = h * a := by have := hr.len; simpa [hl] using this.symm
  subst hn
  have hpos : 0 < h * a := Nat.mul_pos (by omega) ha1
  obtain ⟨bA, oA, rfl, _, _⟩ := hr.at_ hpos
  have S0 := ((St.start w).box #[.int .i64 a, .int .i64 h, .slice (some ⟨bA, oA, none⟩) (h * a) c] 25).box #[.int .i64 0, .int .i64 0, .slice none 0 0] 25
  simp only [size_alloc1, List.nil_append, List.cons_append] at S0
  have HCK := Lib.hid (show ∀ u, Calls Try.prog 43 #[.agg #[.int .i64 a, .int .i64 h, .slice (some ⟨bA, oA, none⟩) (h * a) c]] u (fun e w' => e = .returned (.int .i64 0) ∧ Below u.heap.size u w') from fun u => by
    have h1 := check_any a h (some ⟨bA, oA, none⟩) (h * a) c u
    rwa [chk_ok (by omega) (by omega) (by omega) (by omega) (by rw [Nat.mul_comm]; push_cast; rfl)] at h1)
  have HRD := Lib.hid (fun u (hu : Below w.heap.size w u) => hr.below hu)
  have HLD := Lib.hid (fun u (hu : Below w.heap.size w u) => hrl.below hu)
  have HTC := Lib.hid (fun u (hu : Below w.heap.size w u) => thrcheck_any l b o a cl u (hrl.below hu) (by omega) hx)
  have HX := Lib.hid (fun i (hi : i < a) => hx (l.getD i 0) (by rw [List.getD_eq_getElem?_getD, List.getElem?_eq_getElem (by omega)]; exact List.getElem_mem _))
  have hm2 : h * a ≤ 64 * 64 := Nat.mul_le_mul hh ha
  have HB := Lib.hid (fun y (hy : y < h) => show y * a + a ≤ h * a from by rw [← Nat.succ_mul]; exact Nat.mul_le_mul_right a hy)
  have HAT := Lib.hid (fun x y (hx : x < a) (hy : y < h) => chgL_at (bs := bs) (l := l) hx hy)
  have HD0 := Lib.hid (show diffTo (chgL a h bs l) bs 0 = 0 from rfl)
  have HDL := Lib.hid (fun z => diffTo_le (chgL a h bs l) bs z)
  have HDS := Lib.hid (fun z => diffTo_same (p := chgL a h bs l) (q := bs) (z := z))
  have HDO := Lib.hid (fun z => diffTo_other (p := chgL a h bs l) (q := bs) (z := z))
  have HTK := Lib.hid (fun z (u : Bool) (hz : z < h * a) (hu : (chgL a h bs l).getD z false = u) => show (chgL a h bs l).take (z + 1) = (chgL a h bs l).take z ++ [u] from by
    have h1 := chgL_len a h bs l
    rw [List.take_add_one, List.getElem?_eq_getElem (by omega)]
    rw [List.getD_eq_getElem?_getD, List.getElem?_eq_getElem (by omega)] at hu
    simp at hu
    simp [hu])
  have HLEN := Lib.hid (chgL_len a h bs l)
  have hrs : w.heap.size + 1 < (((w.alloc (.cells #[.int .i64 a, .int .i64 h, .slice (some ⟨bA, oA, none⟩) (h * a) c] 25)).alloc (.cells #[.int .i64 0, .int .i64 0, .slice none 0 0] 25))).heap.size := by simp
  obtain ⟨mf, hmf⟩ : ∃ mf : Nat → Nat → Int → Int, mf = fun y => moreTo (fun x => bs.getD (y * a + x) false) l := ⟨_, rfl⟩
  have HM0 := Lib.hid (show ∀ y v, mf y 0 v = 0 from fun y v => by rw [hmf]; rfl)
  have HMB := Lib.hid (show ∀ (y x : Nat) (v : Int), -(x : Int) ≤ mf y x v ∧ mf y x v ≤ (x : Int) from fun y x v => by rw [hmf]; exact moreTo_bound _ _ _ _)
  have HMU := Lib.hid (show ∀ y x, bs.getD (y * a + x) false = true → ∀ v, mf y (x + 1) v = if v = l.getD x 0 then mf y x (l.getD x 0) + 1 else mf y x v from fun y x hu v => by rw [hmf]; exact moreTo_up hu v)
  have HMD := Lib.hid (show ∀ y x, bs.getD (y * a + x) false = false → ∀ v, mf y (x + 1) v = if v = l.getD x 0 then mf y x (l.getD x 0) - 1 else mf y x v from fun y x hu v => by rw [hmf]; exact moreTo_down hu v)
  have HMF := Lib.hid (show ∀ x y, chgF a bs l x y = decide (0 < mf y a (l.getD x 0)) from fun x y => by rw [hmf]; rfl)
  clear hmf
  unfold ChgR costL
  generalize diffTo (chgL a h bs l) bs = df at *
  generalize chgL a h bs l = cs at *
  generalize hL : h * a = L at *
  have HL := Lib.hid hL
  clear hL
  clear hr hrl hx hl hll
  obtain ⟨c0, c1, c2⟩ := (S0.blk 0 rfl).cell3
  go_enter Try.func37, Try.ntmps37
  go_wp2_with fail
  refine (HCK.out _).mono ?_
  rintro e w1 ⟨rfl, hb1⟩
  have S1 := S0.keep hb1
  go_wp2_with fail
  refine (HTC.out _ S1.below).mono ?_
  rintro e w2 ⟨rfl, hb2⟩
  have S1b := S1.keep hb2
  have S2 := S1b.box #[.int .i64 a, .int .i64 h, .slice none 0 0] 25
  simp only [List.cons_append, List.nil_append] at S2
  have hs2 : w.heap.size + 1 < w2.heap.size := (S1b.blk 1 rfl).lt
  clear c0 c1 c2 hb1 hb2 S0 S1 hrs HTC HCK
  obtain ⟨c0, c1, c2⟩ := (S1b.blk 0 rfl).cell3
  obtain ⟨e0, e1, e2⟩ := (S2.blk 0 rfl).cell3
  have hmm := @run_makeMap Try.prog
  go_wp2_with fail
  clear c0 c1 c2 e0 e1 e2 S1b
  go_loopw [43, 5] (fun i ct wr => ∃ (y z cg : Nat) (Ag : Option Addr), y ≤ h ∧ Hid (z = y * a) ∧ i = .int .i64 y ∧ ct = .int .i64 (df z) ∧ wr.ownsRow w.heap.size 4 1 (.slice Ag z cg) z ((cs.take z).map Value.bool) ∧
      St w [Fact.blk w.heap.size 25 #[.int .i64 a, .int .i64 h, .slice (some ⟨bA, oA, none⟩) L c], Fact.blk (w.heap.size + 1) 25 #[.int .i64 0, .int .i64 0, .slice none 0 0], Fact.blk w2.heap.size 25 #[.int .i64 a, .int .i64 h, .slice Ag z cg]] wr)
    (fun i _ _ => h - (intOf i).toNat)
  case atStart => exact ⟨0, 0, 0, none, Nat.zero_le _, Lib.hid (by simp), rfl, by rw [HD0.out]; rfl, World.ownsRow_nil _ _ _ _, S2⟩
  case round =>
    obtain ⟨y, z, cg, Ag, hy, hz, rfl, rfl, hown, T1⟩ := hrel
    clear S2
    obtain ⟨c0, c1, c2⟩ := (T1.blk 0 rfl).cell3
    by_cases hlt : y < h
    · have hzb : z + a ≤ L := by have h1 := HB.out y hlt; have h2 := hz.out; omega
      have hw1 : IntKind.i64.wrap ((y : Int) * (a : Int)) = (z : Int) := by
        rw [← Int.natCast_mul, ← hz.out]
        exact wrap_small _ (by omega) (by omega)
      obtain ⟨z2, hz2'⟩ : ∃ z2, Hid (z2 = z + a) := ⟨_, Lib.hid rfl⟩
      have hw0 : IntKind.i64.wrap ((y : Int) + 1) = (y : Int) + 1 := wrap_small _ (by omega) (by omega)
      have hw2 : IntKind.i64.wrap (((y : Int) + 1) * (a : Int)) = (z2 : Int) := by
        have h1 : ((y : Int) + 1) * (a : Int) = (z2 : Int) := by
          rw [hz2'.out, hz.out]
          push_cast
          rw [Int.add_mul, Int.one_mul]
        rw [h1]
        exact wrap_small _ (by have := hz2'.out; omega) (by have := hz2'.out; omega)
      have hz0a : (0 : Int) ≤ z := by omega
      have hz3 : z ≤ z2 := by have := hz2'.out; omega
      have hz4 : z2 ≤ c := by have := hz2'.out; omega
      have hz5 : ¬ c = z := by omega
      have hz6 : z2 - z = a := by have := hz2'.out; omega
      have HROW := Lib.hid (fun u (hu : Below w.heap.size w u) x (hx : x < a) => show u.cell? ⟨bA, oA + z + x, none⟩ = some (.bool (bs.getD (z + x) false)) ∧ u.cell? ⟨b, o + x, none⟩ = some (.int .i64 (l.getD x 0)) from ⟨by rw [Nat.add_assoc]; exact bit_cell (HRD.out u hu) (by omega), int_cell (HLD.out u hu) hx⟩)
      go_wp2_with fail
      obtain ⟨wm, rfl⟩ : ∃ q, q = wr := ⟨_, rfl⟩
      go_loopw [61] (fun i wz => ∃ x : Nat, x ≤ a ∧ i = .int .i64 x ∧ (∃ f, MapM wz wm.heap.size x f ∧ Hid (∀ v, f v = mf y x v)) ∧ Below wm.heap.size wm wz) (fun i _ => a - (intOf i).toNat)
      case atStart => exact ⟨0, Nat.zero_le _, rfl, ⟨_, MapM.made wm, Lib.hid (fun v => (HM0.out y v).symm)⟩, (Below.refl _ _).alloc (Nat.le_refl _) _⟩
      case round =>
        obtain ⟨x, hxa, rfl, ⟨f, hmap, hf⟩, hbel⟩ := hrel
        by_cases hltx : x < a
        · have hT := below_then T1.below hbel
          obtain ⟨k0, k1⟩ := HROW.out _ hT x hltx
          obtain ⟨hx0, hx1⟩ := HX.out x hltx
          obtain ⟨v, hv⟩ : ∃ v, l.getD x 0 = v := ⟨_, rfl⟩
          rw [hv] at k1 hx0 hx1
          have HV := Lib.hid hv
          have hkey : keyOf Try.prog 3 (.int .i64 v) = some (.int .i64 v) := keyOf_int_mk Try.underlying3 (WalkArith.wf_i64 (by omega))
          clear hv
          rcases Bool.eq_false_or_eq_true (bs.getD (z + x) false) with hu | hu
          all_goals
            rw [hu] at k0
            have HU := Lib.hid hu
            clear hu
          · obtain ⟨D, hD1, hD2, hD3⟩ := hmap
            have hcv : f v = mf y x v := hf.out v
            have hbv := HMB.out y x v
            rw [← hcv] at hbv
            have hwp : IntKind.i64.wrap (f v + 1) = f v + 1 := IntWalk.i64_in _ (by omega)
            clear hcv
            have hwf : (Lit.int .i64 (f v + 1)).wf = true := WalkArith.wf_i64 (by omega)
            go_wp2_with (first
              | (at_lookup; refine wpList_lookup_own_int _ rfl _ _ 94 rfl 3 3 .i64 lawI Try.underlying94 Try.underlying3 (zeroI _) wm.heap.size x _ rfl hD1 _ _ rfl hkey ?_; intro c' hat hwc; obtain rfl := MapM.at_ hD3 hat; clear hat hwc)
              | (at_mapUpdate; refine wpList_mapUpdate_own _ rfl _ _ _ 94 rfl 3 3 lawI Try.underlying94 _ wm.heap.size x _ rfl hD1 (by unfold maxLen; omega) _ _ _ rfl rfl hkey _ [] (plainElem_int Try.underlying3 hwf) ?_; intro w5 hown5 hgrow5)
              | go_in)
            go_roundw
            case rel => exact ⟨x + 1, by omega, by go_num, ⟨_, MapM.put hown5 hD2 hD3 (g := fun v' => if v' = v then f v + 1 else f v') (fun _ => rfl), Lib.hid (fun v' => by
              have h1 := HMU.out y x (hz.out ▸ HU.out) v'
              rw [HV.out] at h1
              rw [h1]
              simp only [hf.out])⟩, hbel.grown hgrow5 hbel.size (fun j hj => by cases hj; exact Nat.le_refl _)⟩
            case measure => simp [intOf]; omega
          · obtain ⟨D, hD1, hD2, hD3⟩ := hmap
            have hcv : f v = mf y x v := hf.out v
            have hbv := HMB.out y x v
            rw [← hcv] at hbv
            have hwp : IntKind.i64.wrap (f v - 1) = f v - 1 := IntWalk.i64_in _ (by omega)
            clear hcv
            have hwf : (Lit.int .i64 (f v - 1)).wf = true := WalkArith.wf_i64 (by omega)
            go_wp2_with (first
              | (at_lookup; refine wpList_lookup_own_int _ rfl _ _ 94 rfl 3 3 .i64 lawI Try.underlying94 Try.underlying3 (zeroI _) wm.heap.size x _ rfl hD1 _ _ rfl hkey ?_; intro c' hat hwc; obtain rfl := MapM.at_ hD3 hat; clear hat hwc)
              | (at_mapUpdate; refine wpList_mapUpdate_own _ rfl _ _ _ 94 rfl 3 3 lawI Try.underlying94 _ wm.heap.size x _ rfl hD1 (by unfold maxLen; omega) _ _ _ rfl rfl hkey _ [] (plainElem_int Try.underlying3 hwf) ?_; intro w5 hown5 hgrow5)
              | go_in)
            go_roundw
            case rel => exact ⟨x + 1, by omega, by go_num, ⟨_, MapM.put hown5 hD2 hD3 (g := fun v' => if v' = v then f v - 1 else f v') (fun _ => rfl), Lib.hid (fun v' => by
              have h1 := HMD.out y x (hz.out ▸ HU.out) v'
              rw [HV.out] at h1
              rw [h1]
              simp only [hf.out])⟩, hbel.grown hgrow5 hbel.size (fun j hj => by cases hj; exact Nat.le_refl _)⟩
            case measure => simp [intOf]; omega
        · obtain rfl : a = x := by omega
          have T7 := T1.keep hbel
          have hown7 := own_below hown hbel
          obtain ⟨w7, rfl⟩ : ∃ q, q = wr := ⟨_, rfl⟩
          go_wp2_with fail
          go_loopw [84, 5] (fun i ct wz => ∃ (x cg : Nat) (Ag : Option Addr), x ≤ a ∧ i = .int .i64 x ∧ ct = .int .i64 (df (z + x)) ∧ wz.ownsRow w.heap.size 4 1 (.slice Ag (z + x) cg) (z + x) ((cs.take (z + x)).map Value.bool) ∧ MapM wz wm.heap.size a f ∧ Blk wz w2.heap.size 25 #[.int .i64 a, .int .i64 h, .slice Ag (z + x) cg] ∧ Blk wz w.heap.size 25 #[.int .i64 a, .int .i64 h, .slice (some ⟨bA, oA, none⟩) L c] ∧ Blk wz (w.heap.size + 1) 25 #[.int .i64 0, .int .i64 0, .slice none 0 0] ∧ Below w.heap.size w wz) (fun i _ _ => a - (intOf i).toNat)
          case atStart => exact ⟨0, cg, Ag, Nat.zero_le _, rfl, rfl, hown7, hmap, T7.blk 2 rfl, T7.blk 0 rfl, T7.blk 1 rfl, T7.below⟩
          case round =>
            clear hown hown7 T1 T7 hmap hbel cg Ag c0 c1 c2
            obtain ⟨x, cg, Ag, hxa, rfl, rfl, hown, hmap, hout, hgb, hres, hb8⟩ := hrel
            by_cases hltx : x < a
            · obtain ⟨k0, k1⟩ := HROW.out _ hb8 x hltx
              obtain ⟨hx0, hx1⟩ := HX.out x hltx
              obtain ⟨v, hv⟩ : ∃ v, l.getD x 0 = v := ⟨_, rfl⟩
              rw [hv] at k1 hx0 hx1
              have HV := Lib.hid hv
              have hkey : keyOf Try.prog 3 (.int .i64 v) = some (.int .i64 v) := keyOf_int_mk Try.underlying3 (WalkArith.wf_i64 (by omega))
              clear hv
              obtain ⟨D, hD1, hD2, hD3⟩ := id hmap
              obtain ⟨m0, m1, m2⟩ := hout.cell3
              have hfz := hout.frozen 2
              have hsm : z + x + 1 ≤ 1048576 := by omega
              have hdl := HDL.out (z + x)
              have hwd : IntKind.i64.wrap ((df (z + x) : Int) + 1) = (df (z + x) : Int) + 1 := IntWalk.i64_in _ (by omega)
              have hrs := hb8.size
              rcases Bool.eq_false_or_eq_true (bs.getD (z + x) false) with hu | hu <;> rcases Bool.eq_false_or_eq_true (decide (0 < f v)) with hB | hB
              all_goals
                rw [hu] at k0
                have HU := Lib.hid hu
                clear hu
              · have hcu : cs.getD (z + x) false = true := by rw [hz.out, HAT.out x y hltx hlt, HMF.out, HV.out, ← hf.out]; exact hB
                have htk := HTK.out (z + x) true (by omega) hcu
                have hdf : df (z + (x + 1)) = df (z + x) := HDS.out (z + x) (hcu.trans HU.out.symm)
                have hTK := Lib.hid htk
                have hDF := Lib.hid hdf
                clear hcu htk hdf
                go_wp2_with (first
                  | (at_lookup; refine wpList_lookup_own_int _ rfl _ _ 94 rfl 3 3 .i64 lawI Try.underlying94 Try.underlying3 (zeroI _) wm.heap.size a _ rfl hD1 _ _ rfl hkey ?_; intro c' hat hwc; obtain rfl := MapM.at_ hD3 hat; clear hat hwc)
                  | (at_builtin; refine wpList_app _ rfl (.tmp 97) (.tmp 99) 23 rfl w.heap.size 4 i0 (.bool false) 1 Try.underlying23 hi hz0 hz1 hz2 rfl (by decide) (.slice Ag (z + x) cg) (z + x) _ rfl (hown.alloc _) wr.heap.size (.bool true) rfl (new_cell wr _ _) rfl hsm (size_alloc_le hb8.size _) ?_; intro g' cp' w9 hown9 hgr9; have hblk9 := (hout.alloc _).grown hgr9 (own_blk_ne (hown.alloc _) (hout.alloc (.cells #[.bool true] 4)) (by decide)); have cc9 := hblk9.cell 2; have hfz9 := hblk9.frozen 2)
                  | go_in)
                have hmap9 := (hmap.alloc (.cells #[.bool true] 4)).grown hgr9 ((hmap.alloc (.cells #[.bool true] 4)).ne_own (hown.alloc _))
                have hg9 := (hgb.alloc _).grown hgr9 (own_blk_ne (hown.alloc _) (hgb.alloc (.cells #[.bool true] 4)) (by decide))
                have hres9 := (hres.alloc _).grown hgr9 (own_blk_ne (hown.alloc _) (hres.alloc (.cells #[.bool true] 4)) (by decide))
                have hbel9 := (hb8.alloc hb8.size _).grown hgr9 (size_alloc_le hb8.size _) (fun k hk => (hown.lt k hk).1)
                have R1 := Lib.hid (hblk9.set_ 2 (.slice (some ⟨g', 0, none⟩) (z + x + 1) cp'))
                have R2 := Lib.hid (hres9.far (p := ⟨w2.heap.size, 2, none⟩) (by simp; omega) (.slice (some ⟨g', 0, none⟩) (z + x + 1) cp'))
                have R5 := Lib.hid (hg9.far (p := ⟨w2.heap.size, 2, none⟩) (by simp; omega) (.slice (some ⟨g', 0, none⟩) (z + x + 1) cp'))
                have R6 := Lib.hid (hmap9.far (p := ⟨w2.heap.size, 2, none⟩) (hmap9.ne_blk hblk9) (.slice (some ⟨g', 0, none⟩) (z + x + 1) cp'))
                have R3 := Lib.hid (own_far hown9 (p := ⟨w2.heap.size, 2, none⟩) (own_blk_ne hown9 hblk9 (by decide)) (.slice (some ⟨g', 0, none⟩) (z + x + 1) cp'))
                have R4 := Lib.hid (hbel9.setCell (p := ⟨w2.heap.size, 2, none⟩) (by simp; omega) (.slice (some ⟨g', 0, none⟩) (z + x + 1) cp'))
                clear hown hmap hout hgb hres hb8 hown9 hgr9 hblk9 hmap9 hg9 hres9 hbel9 hD1 m0 m1 m2 hfz
                go_roundw
                case rel =>
                  refine ⟨x + 1, cp', some ⟨g', 0, none⟩, by omega, by go_num, by rw [hDF.out], ?_, R6.out, by simpa [Nat.add_assoc] using R1.out, R5.out, R2.out, R4.out⟩
                  have h3 := R3.out
                  have h4 := hTK.out
                  rw [show z + (x + 1) = z + x + 1 from rfl, h4]
                  simpa using h3
                case measure => simp [intOf]; omega
              · have hcu : cs.getD (z + x) false = false := by rw [hz.out, HAT.out x y hltx hlt, HMF.out, HV.out, ← hf.out]; exact hB
                have htk := HTK.out (z + x) false (by omega) hcu
                have hdf : df (z + (x + 1)) = df (z + x) + 1 := HDO.out (z + x) (by rw [hcu, HU.out]; decide)
                have hTK := Lib.hid htk
                have hDF := Lib.hid hdf
                clear hcu htk hdf
                go_wp2_with (first
                  | (at_lookup; refine wpList_lookup_own_int _ rfl _ _ 94 rfl 3 3 .i64 lawI Try.underlying94 Try.underlying3 (zeroI _) wm.heap.size a _ rfl hD1 _ _ rfl hkey ?_; intro c' hat hwc; obtain rfl := MapM.at_ hD3 hat; clear hat hwc)
                  | (at_builtin; refine wpList_app _ rfl (.tmp 97) (.tmp 99) 23 rfl w.heap.size 4 i0 (.bool false) 1 Try.underlying23 hi hz0 hz1 hz2 rfl (by decide) (.slice Ag (z + x) cg) (z + x) _ rfl (hown.alloc _) wr.heap.size (.bool false) rfl (new_cell wr _ _) rfl hsm (size_alloc_le hb8.size _) ?_; intro g' cp' w9 hown9 hgr9; have hblk9 := (hout.alloc _).grown hgr9 (own_blk_ne (hown.alloc _) (hout.alloc (.cells #[.bool false] 4)) (by decide)); have cc9 := hblk9.cell 2; have hfz9 := hblk9.frozen 2)
                  | go_in)
                have hmap9 := (hmap.alloc (.cells #[.bool false] 4)).grown hgr9 ((hmap.alloc (.cells #[.bool false] 4)).ne_own (hown.alloc _))
                have hg9 := (hgb.alloc _).grown hgr9 (own_blk_ne (hown.alloc _) (hgb.alloc (.cells #[.bool false] 4)) (by decide))
                have hres9 := (hres.alloc _).grown hgr9 (own_blk_ne (hown.alloc _) (hres.alloc (.cells #[.bool false] 4)) (by decide))
                have hbel9 := (hb8.alloc hb8.size _).grown hgr9 (size_alloc_le hb8.size _) (fun k hk => (hown.lt k hk).1)
                have R1 := Lib.hid (hblk9.set_ 2 (.slice (some ⟨g', 0, none⟩) (z + x + 1) cp'))
                have R2 := Lib.hid (hres9.far (p := ⟨w2.heap.size, 2, none⟩) (by simp; omega) (.slice (some ⟨g', 0, none⟩) (z + x + 1) cp'))
                have R5 := Lib.hid (hg9.far (p := ⟨w2.heap.size, 2, none⟩) (by simp; omega) (.slice (some ⟨g', 0, none⟩) (z + x + 1) cp'))
                have R6 := Lib.hid (hmap9.far (p := ⟨w2.heap.size, 2, none⟩) (hmap9.ne_blk hblk9) (.slice (some ⟨g', 0, none⟩) (z + x + 1) cp'))
                have R3 := Lib.hid (own_far hown9 (p := ⟨w2.heap.size, 2, none⟩) (own_blk_ne hown9 hblk9 (by decide)) (.slice (some ⟨g', 0, none⟩) (z + x + 1) cp'))
                have R4 := Lib.hid (hbel9.setCell (p := ⟨w2.heap.size, 2, none⟩) (by simp; omega) (.slice (some ⟨g', 0, none⟩) (z + x + 1) cp'))
                clear hown hmap hout hgb hres hb8 hown9 hgr9 hblk9 hmap9 hg9 hres9 hbel9 hD1 m0 m1 m2 hfz
                go_roundw
                case rel =>
                  refine ⟨x + 1, cp', some ⟨g', 0, none⟩, by omega, by go_num, by rw [hDF.out]; rfl, ?_, R6.out, by simpa [Nat.add_assoc] using R1.out, R5.out, R2.out, R4.out⟩
                  have h3 := R3.out
                  have h4 := hTK.out
                  rw [show z + (x + 1) = z + x + 1 from rfl, h4]
                  simpa using h3
                case measure => simp [intOf]; omega
              · have hcu : cs.getD (z + x) false = true := by rw [hz.out, HAT.out x y hltx hlt, HMF.out, HV.out, ← hf.out]; exact hB
                have htk := HTK.out (z + x) true (by omega) hcu
                have hdf : df (z + (x + 1)) = df (z + x) + 1 := HDO.out (z + x) (by rw [hcu, HU.out]; decide)
                have hTK := Lib.hid htk
                have hDF := Lib.hid hdf
                clear hcu htk hdf
                go_wp2_with (first
                  | (at_lookup; refine wpList_lookup_own_int _ rfl _ _ 94 rfl 3 3 .i64 lawI Try.underlying94 Try.underlying3 (zeroI _) wm.heap.size a _ rfl hD1 _ _ rfl hkey ?_; intro c' hat hwc; obtain rfl := MapM.at_ hD3 hat; clear hat hwc)
                  | (at_builtin; refine wpList_app _ rfl (.tmp 97) (.tmp 99) 23 rfl w.heap.size 4 i0 (.bool false) 1 Try.underlying23 hi hz0 hz1 hz2 rfl (by decide) (.slice Ag (z + x) cg) (z + x) _ rfl (hown.alloc _) wr.heap.size (.bool true) rfl (new_cell wr _ _) rfl hsm (size_alloc_le hb8.size _) ?_; intro g' cp' w9 hown9 hgr9; have hblk9 := (hout.alloc _).grown hgr9 (own_blk_ne (hown.alloc _) (hout.alloc (.cells #[.bool true] 4)) (by decide)); have cc9 := hblk9.cell 2; have hfz9 := hblk9.frozen 2)
                  | go_in)
                have hmap9 := (hmap.alloc (.cells #[.bool true] 4)).grown hgr9 ((hmap.alloc (.cells #[.bool true] 4)).ne_own (hown.alloc _))
                have hg9 := (hgb.alloc _).grown hgr9 (own_blk_ne (hown.alloc _) (hgb.alloc (.cells #[.bool true] 4)) (by decide))
                have hres9 := (hres.alloc _).grown hgr9 (own_blk_ne (hown.alloc _) (hres.alloc (.cells #[.bool true] 4)) (by decide))
                have hbel9 := (hb8.alloc hb8.size _).grown hgr9 (size_alloc_le hb8.size _) (fun k hk => (hown.lt k hk).1)
                have R1 := Lib.hid (hblk9.set_ 2 (.slice (some ⟨g', 0, none⟩) (z + x + 1) cp'))
                have R2 := Lib.hid (hres9.far (p := ⟨w2.heap.size, 2, none⟩) (by simp; omega) (.slice (some ⟨g', 0, none⟩) (z + x + 1) cp'))
                have R5 := Lib.hid (hg9.far (p := ⟨w2.heap.size, 2, none⟩) (by simp; omega) (.slice (some ⟨g', 0, none⟩) (z + x + 1) cp'))
                have R6 := Lib.hid (hmap9.far (p := ⟨w2.heap.size, 2, none⟩) (hmap9.ne_blk hblk9) (.slice (some ⟨g', 0, none⟩) (z + x + 1) cp'))
                have R3 := Lib.hid (own_far hown9 (p := ⟨w2.heap.size, 2, none⟩) (own_blk_ne hown9 hblk9 (by decide)) (.slice (some ⟨g', 0, none⟩) (z + x + 1) cp'))
                have R4 := Lib.hid (hbel9.setCell (p := ⟨w2.heap.size, 2, none⟩) (by simp; omega) (.slice (some ⟨g', 0, none⟩) (z + x + 1) cp'))
                clear hown hmap hout hgb hres hb8 hown9 hgr9 hblk9 hmap9 hg9 hres9 hbel9 hD1 m0 m1 m2 hfz
                go_roundw
                case rel =>
                  refine ⟨x + 1, cp', some ⟨g', 0, none⟩, by omega, by go_num, by rw [hDF.out]; rfl, ?_, R6.out, by simpa [Nat.add_assoc] using R1.out, R5.out, R2.out, R4.out⟩
                  have h3 := R3.out
                  have h4 := hTK.out
                  rw [show z + (x + 1) = z + x + 1 from rfl, h4]
                  simpa using h3
                case measure => simp [intOf]; omega
              · have hcu : cs.getD (z + x) false = false := by rw [hz.out, HAT.out x y hltx hlt, HMF.out, HV.out, ← hf.out]; exact hB
                have htk := HTK.out (z + x) false (by omega) hcu
                have hdf : df (z + (x + 1)) = df (z + x) := HDS.out (z + x) (hcu.trans HU.out.symm)
                have hTK := Lib.hid htk
                have hDF := Lib.hid hdf
                clear hcu htk hdf
                go_wp2_with (first
                  | (at_lookup; refine wpList_lookup_own_int _ rfl _ _ 94 rfl 3 3 .i64 lawI Try.underlying94 Try.underlying3 (zeroI _) wm.heap.size a _ rfl hD1 _ _ rfl hkey ?_; intro c' hat hwc; obtain rfl := MapM.at_ hD3 hat; clear hat hwc)
                  | (at_builtin; refine wpList_app _ rfl (.tmp 97) (.tmp 99) 23 rfl w.heap.size 4 i0 (.bool false) 1 Try.underlying23 hi hz0 hz1 hz2 rfl (by decide) (.slice Ag (z + x) cg) (z + x) _ rfl (hown.alloc _) wr.heap.size (.bool false) rfl (new_cell wr _ _) rfl hsm (size_alloc_le hb8.size _) ?_; intro g' cp' w9 hown9 hgr9; have hblk9 := (hout.alloc _).grown hgr9 (own_blk_ne (hown.alloc _) (hout.alloc (.cells #[.bool false] 4)) (by decide)); have cc9 := hblk9.cell 2; have hfz9 := hblk9.frozen 2)
                  | go_in)
                have hmap9 := (hmap.alloc (.cells #[.bool false] 4)).grown hgr9 ((hmap.alloc (.cells #[.bool false] 4)).ne_own (hown.alloc _))
                have hg9 := (hgb.alloc _).grown hgr9 (own_blk_ne (hown.alloc _) (hgb.alloc (.cells #[.bool false] 4)) (by decide))
                have hres9 := (hres.alloc _).grown hgr9 (own_blk_ne (hown.alloc _) (hres.alloc (.cells #[.bool false] 4)) (by decide))
                have hbel9 := (hb8.alloc hb8.size _).grown hgr9 (size_alloc_le hb8.size _) (fun k hk => (hown.lt k hk).1)
                have R1 := Lib.hid (hblk9.set_ 2 (.slice (some ⟨g', 0, none⟩) (z + x + 1) cp'))
                have R2 := Lib.hid (hres9.far (p := ⟨w2.heap.size, 2, none⟩) (by simp; omega) (.slice (some ⟨g', 0, none⟩) (z + x + 1) cp'))
                have R5 := Lib.hid (hg9.far (p := ⟨w2.heap.size, 2, none⟩) (by simp; omega) (.slice (some ⟨g', 0, none⟩) (z + x + 1) cp'))
                have R6 := Lib.hid (hmap9.far (p := ⟨w2.heap.size, 2, none⟩) (hmap9.ne_blk hblk9) (.slice (some ⟨g', 0, none⟩) (z + x + 1) cp'))
                have R3 := Lib.hid (own_far hown9 (p := ⟨w2.heap.size, 2, none⟩) (own_blk_ne hown9 hblk9 (by decide)) (.slice (some ⟨g', 0, none⟩) (z + x + 1) cp'))
                have R4 := Lib.hid (hbel9.setCell (p := ⟨w2.heap.size, 2, none⟩) (by simp; omega) (.slice (some ⟨g', 0, none⟩) (z + x + 1) cp'))
                clear hown hmap hout hgb hres hb8 hown9 hgr9 hblk9 hmap9 hg9 hres9 hbel9 hD1 m0 m1 m2 hfz
                go_roundw
                case rel =>
                  refine ⟨x + 1, cp', some ⟨g', 0, none⟩, by omega, by go_num, by rw [hDF.out], ?_, R6.out, by simpa [Nat.add_assoc] using R1.out, R5.out, R2.out, R4.out⟩
                  have h3 := R3.out
                  have h4 := hTK.out
                  rw [show z + (x + 1) = z + x + 1 from rfl, h4]
                  simpa using h3
                case measure => simp [intOf]; omega
            · obtain rfl : a = x := by omega
              go_wp2_with fail
              go_roundw
              case rel => exact ⟨y + 1, z + a, cg, Ag, by omega, Lib.hid (by rw [Nat.succ_mul, ← hz.out]), by go_num, rfl, hown, ⟨hb8, by intro q hq; simp only [List.mem_cons, List.not_mem_nil, or_false] at hq; rcases hq with rfl | rfl | rfl; exact hgb; exact hres; exact hout⟩⟩
              case measure => simp [intOf]; omega
    · obtain rfl : h = y := by omega
      have hzL : z = L := hz.out.trans HL.out
      subst hzL
      obtain ⟨r0, r1, r2⟩ := (T1.blk 2 rfl).cell3
      obtain ⟨f0, f1, f2⟩ := (T1.blk 1 rfl).frozen3
      obtain ⟨p0, p1, p2⟩ := (T1.blk 1 rfl).cell3
      have hS := (T1.blk 1 rfl).set3 (.int .i64 a) (.int .i64 h) (.slice Ag z cg)
      obtain ⟨q0, q1, q2⟩ := hS.cell3
      go_wp2_with fail
      refine bodyPost_ret (v := .tuple #[.agg #[.int .i64 a, .int .i64 h, .slice Ag z cg], .int .i64 (df z), .int .i64 0]) (by simp [results, Try.results37, go_sem, q0, q1, q2]) rfl ?_
      exact ⟨Ag, z, cg, rfl, by have h1 := own_set3 hown (T1.blk 1 rfl) (by decide) (.int .i64 a) (.int .i64 h) (.slice Ag z cg); rw [List.take_of_length_le (by have := HLEN.out; omega)] at h1; exact h1, below_set3 T1.below (Nat.le_succ _) _ _ _⟩
end Go.Proofs.Ytmajmbfbnchbfaa
