/- symmetry.applied where it exchanges (no, columns false). -/
import Derived.Test.YtliibficmdomjaaDoorMg7z
namespace Go.Proofs.YtliibficmdomjaaDoor
open Go.RowKit

set_option maxHeartbeats 4000000 in
theorem applied_fff (a b op bl o c : Nat) (bs : List Bool) (w : World) (ha1 : 1 ≤ a) (hb1 : 1 ≤ b) (ha : a ≤ 64) (hb : b ≤ 64) (ho : op < 16) (s8 : Bool) (h1 : op.testBit 0 = false) (h2 : op.testBit 1 = false) (h4 : op.testBit 2 = false) (h8 : op.testBit 3 = s8) (hr : Rd w (some ⟨bl, o, none⟩) (b * a) (bs.map Value.bool)) :
    Calls Tryd.prog 33 #[.agg #[.int .i64 a, .int .i64 b, .slice (some ⟨bl, o, none⟩) (b * a) c], .int .i64 op] w (RetT ⟨a, b, Pl.tab a b (appF a b (cellF a bs) false false false s8)⟩ w) := by
  obtain ⟨i0, hi, hz0, hz1, hz2⟩ := info_parts Tryd.infoB
  have k4 : bits .and .i64 (op : Int) 4 = 0 := by rw [bit4 ho, h4]; rfl
  have k1 : bits .and .i64 (op : Int) 1 = 0 := by rw [bit1 ho, h1]; rfl
  have k2 : bits .and .i64 (op : Int) 2 = 0 := by rw [bit2 ho, h2]; rfl
  obtain ⟨z8, k8, e8⟩ : ∃ z : Int, bits .and .i64 (op : Int) 8 = z ∧ (z != 0) = s8 := ⟨_, rfl, by rw [bit8 ho, h8]; cases s8 <;> rfl⟩
  clear h1 h2 h4 h8 ho
  have S0 := ((St.start w).box #[.int .i64 a, .int .i64 b, .slice (some ⟨bl, o, none⟩) (b * a) c] 24).box #[.int .i64 0, .int .i64 0, .slice none 0 0] 24
  simp only [size_alloc1, List.nil_append, List.cons_append] at S0
  obtain ⟨c0, c1, c2⟩ := (S0.blk 0 rfl).cell3
  have hbs : bs.length = b * a := by simpa using hr.len
  have HB := Lib.hid hbs
  have HRd := Lib.hid (fun wz (hz : Below w.heap.size w wz) => (hr.below hz).lit)
  clear hr hbs
  go_enter Tryd.func33, Tryd.ntmps33
  go_wp2_with fail
  go_quiet (fail)
  go_wp2_with fail
  have S1 := (S0.drewN nq).box #[.int .i64 a, .int .i64 b, .slice none 0 0] 24
  simp only [size_alloc1, World.heap_drewN, List.nil_append, List.cons_append] at S1
  clear c0 c1 c2
  go_loopw [25] (fun i wr => ∃ (y t cp : Nat) (A' : Option Addr), y ≤ b ∧ i = .int .i64 y ∧ Hid (t = y * a) ∧ Blk wr (w.heap.size + 1 + 1) 24 #[.int .i64 a, .int .i64 b, .slice A' (t) cp] ∧
      Blk wr (w.heap.size + 1) 24 #[.int .i64 0, .int .i64 0, .slice none 0 0] ∧ Blk wr w.heap.size 24 #[.int .i64 a, .int .i64 b, .slice (some ⟨bl, o, none⟩) (b * a) c] ∧
      wr.ownsRow w.heap.size 4 1 (.slice A' (t) cp) (t) ((Pl.tab a y (appF a b (cellF a bs) false false false s8)).map Value.bool) ∧ Below w.heap.size w wr)
    (fun i _ => b - (intOf i).toNat)
  case atStart => exact ⟨0, 0, 0, none, Nat.zero_le _, rfl, Lib.hid (by simp), S1.blk 2 rfl, S1.blk 1 rfl, S1.blk 0 rfl, by simpa [Pl.tab_zero] using World.ownsRow_nil _ _ _ _, S1.below⟩
  case round =>
    clear S0 S1
    obtain ⟨y, t, cp, A', hy, rfl, HT, hblk, hz, hg, hown, hbel⟩ := hrel
    by_cases hlt : y < b
    · go_wp2_with fail
      go_loopw [29] (fun i wr => ∃ (x t cp : Nat) (A' : Option Addr), x ≤ a ∧ i = .int .i64 x ∧ Hid (t = y * a + x) ∧ Blk wr (w.heap.size + 1 + 1) 24 #[.int .i64 a, .int .i64 b, .slice A' (t) cp] ∧
      Blk wr (w.heap.size + 1) 24 #[.int .i64 0, .int .i64 0, .slice none 0 0] ∧ Blk wr w.heap.size 24 #[.int .i64 a, .int .i64 b, .slice (some ⟨bl, o, none⟩) (b * a) c] ∧
      wr.ownsRow w.heap.size 4 1 (.slice A' (t) cp) (t) ((Pl.tab a y (appF a b (cellF a bs) false false false s8) ++ (List.range x).map fun x => (appF a b (cellF a bs) false false false s8) x y).map Value.bool) ∧ Below w.heap.size w wr)
        (fun i _ => a - (intOf i).toNat)
      case atStart => exact ⟨0, t, cp, A', Nat.zero_le _, rfl, Lib.hid (by rw [HT.out]; rfl), hblk, hz, hg, by simpa using hown, hbel⟩
      case round =>
        clear hblk hz hg hown hbel A' HT
        obtain ⟨x, t, cp, A', hx, rfl, HT, hblk, hz, hg, hown, hbel⟩ := hrel
        by_cases hltx : x < a
        · have hsm : t + 1 ≤ 1048576 := by
            rw [HT.out]
            have h1 := Pl.cell_lt (w := a) (h := b) hltx hlt
            have h2 : b * a ≤ 64 * 64 := Nat.mul_le_mul (by omega) (by omega)
            omega
          have hsx : w.heap.size ≤ wr.heap.size := hbel.size
          obtain ⟨u, hu⟩ : ∃ q : Nat, x = q := ⟨_, rfl⟩
          obtain ⟨v, hv⟩ : ∃ q : Nat, y = q := ⟨_, rfl⟩
          have HF : Hid ((appF a b (cellF a bs) false false false s8) x y = !(bs.getD (v * a + u) false == s8)) := Lib.hid (by
            unfold appF cellF
            simp only [Bool.false_eq_true, if_false]
            rw [hu, hv]
            rfl)
          have hua : u < a := by omega
          have hvb : v < b := by omega
          skip
          have hF := Pl.cell_lt (w := a) (h := b) hua hvb
          have hcell : wr.cell? ⟨bl, o + (v * a + u), none⟩ = some (.bool (bs.getD (v * a + u) false)) := HRd.out wr hbel _ _ (by
            have := HB.out
            rw [List.getElem?_map, List.getElem?_eq_getElem (by omega)]
            simp [List.getD, show v * a + u < bs.length by omega])
          have m1 : (v : Int) * (a : Int) = ((v * a : Nat) : Int) := (Int.natCast_mul v a).symm
          have m1b : (y : Int) * (a : Int) = ((v * a : Nat) : Int) := by rw [hv]; exact (Int.natCast_mul v a).symm
          have m4b : ((v * a : Nat) : Int) + (x : Int) = ((v * a + u : Nat) : Int) := by omega
          clear hu hv
          have m2 : v * a ≤ 64 * 64 := Nat.mul_le_mul (by omega) (by omega)
          have m3 : IntKind.i64.wrap ((v * a : Nat) : Int) = ((v * a : Nat) : Int) := IntWalk.i64_in _ (by omega)
          have m4 : ((v * a : Nat) : Int) + (u : Int) = ((v * a + u : Nat) : Int) := by omega
          have m5 : IntKind.i64.wrap ((v * a + u : Nat) : Int) = ((v * a + u : Nat) : Int) := IntWalk.i64_in _ (by omega)
          generalize bs.getD (v * a + u) false = p at *
          have hvn : v * a + u < b * a := hF
          generalize b * a = n at *
          generalize v * a + u = q at *
          generalize v * a = r at *
          obtain ⟨c0, c1, c2⟩ := hg.cell3
          have cc2 := hblk.cell 2
          have cc2a := fun o => (hblk.alloc o).cell 2
          go_wp2_with fail
          try simp only [hU]
          try simp only [hV]
          go_region_law
            (first
              | (refine step_app _ rfl (.tmp 56) (.tmp 71) 22 rfl w.heap.size 4 i0 (.bool false) 1 Tryd.underlying22 hi hz0 hz1 hz2 rfl (by decide) (.slice A' t cp) t _ rfl ((hown.alloc _).drew) wr.heap.size (.bool (!(p == s8))) rfl (new_cell wr _ _) rfl hsm (size_alloc_le hsx _) ?_; intro g' cp' w3 hown3 hgr3; have hblk3 := ((hblk.alloc _).drew).grown hgr3 (own_blk_ne hown hblk (by decide)); have hfz3 := hblk3.frozen 2; have cc3 := hblk3.cell 2)
              | fail)
          all_goals
            have TL := Lib.hid (app_tail hblk hz hg hown hbel _ hown3 hgr3)
            clear hown hbel hblk hz hg cc2 cc2a hown3 hgr3 hblk3 c0 c1 c2 hcell
            go_wp2_with fail
            go_roundw
            case rel => exact ⟨x + 1, t + 1, cp', some ⟨g', 0, none⟩, by omega, by go_num, Lib.hid (by rw [HT.out]; rfl), TL.out.1, TL.out.2.1, TL.out.2.2.1, by rw [tab_step, HF.out]; exact TL.out.2.2.2.1, TL.out.2.2.2.2⟩
            case measure => simp [intOf]; omega
        · have hxa : x = a := by omega
          subst hxa
          go_wp2_with fail
          go_roundw
          case rel => exact ⟨y + 1, t, cp, A', by omega, by go_num, Lib.hid (by rw [HT.out, Nat.succ_mul]), hblk, hz, hg, by rw [Pl.tab_succ]; exact hown, hbel⟩
          case measure => simp [intOf]; omega
    · have hyb : y = b := by omega
      subst hyb
      obtain ⟨c0, c1, c2⟩ := hblk.cell3
      obtain ⟨r0, r1, r2⟩ := hz.cell3
      obtain ⟨f0, f1, f2⟩ := hz.frozen3
      obtain ⟨q0, q1, q2⟩ := (hz.set3 (.int .i64 a) (.int .i64 y) (.slice A' t cp)).cell3
      go_wp2_with fail
      refine bodyPost_ret (v := .agg #[.int .i64 a, .int .i64 y, .slice A' t cp]) (by simp [results, Tryd.results33, go_sem, q0, q1, q2]) rfl ?_
      exact ⟨A', _, cp, rfl, own_set3 hown hz (by decide) _ _ _, below_set3 hbel (by omega) _ _ _⟩

set_option maxHeartbeats 4000000 in
theorem applied_fft (a b op bl o c : Nat) (bs : List Bool) (w : World) (ha1 : 1 ≤ a) (hb1 : 1 ≤ b) (ha : a ≤ 64) (hb : b ≤ 64) (ho : op < 16) (s8 : Bool) (h1 : op.testBit 0 = false) (h2 : op.testBit 1 = true) (h4 : op.testBit 2 = false) (h8 : op.testBit 3 = s8) (hr : Rd w (some ⟨bl, o, none⟩) (b * a) (bs.map Value.bool)) :
    Calls Tryd.prog 33 #[.agg #[.int .i64 a, .int .i64 b, .slice (some ⟨bl, o, none⟩) (b * a) c], .int .i64 op] w (RetT ⟨a, b, Pl.tab a b (appF a b (cellF a bs) false true false s8)⟩ w) := by
  obtain ⟨i0, hi, hz0, hz1, hz2⟩ := info_parts Tryd.infoB
  have k4 : bits .and .i64 (op : Int) 4 = 0 := by rw [bit4 ho, h4]; rfl
  have k1 : bits .and .i64 (op : Int) 1 = 0 := by rw [bit1 ho, h1]; rfl
  have k2 : bits .and .i64 (op : Int) 2 = 2 := by rw [bit2 ho, h2]; rfl
  obtain ⟨z8, k8, e8⟩ : ∃ z : Int, bits .and .i64 (op : Int) 8 = z ∧ (z != 0) = s8 := ⟨_, rfl, by rw [bit8 ho, h8]; cases s8 <;> rfl⟩
  clear h1 h2 h4 h8 ho
  have S0 := ((St.start w).box #[.int .i64 a, .int .i64 b, .slice (some ⟨bl, o, none⟩) (b * a) c] 24).box #[.int .i64 0, .int .i64 0, .slice none 0 0] 24
  simp only [size_alloc1, List.nil_append, List.cons_append] at S0
  obtain ⟨c0, c1, c2⟩ := (S0.blk 0 rfl).cell3
  have hbs : bs.length = b * a := by simpa using hr.len
  have HB := Lib.hid hbs
  have HRd := Lib.hid (fun wz (hz : Below w.heap.size w wz) => (hr.below hz).lit)
  clear hr hbs
  go_enter Tryd.func33, Tryd.ntmps33
  go_wp2_with fail
  go_quiet (fail)
  go_wp2_with fail
  have S1 := (S0.drewN nq).box #[.int .i64 a, .int .i64 b, .slice none 0 0] 24
  simp only [size_alloc1, World.heap_drewN, List.nil_append, List.cons_append] at S1
  clear c0 c1 c2
  go_loopw [25] (fun i wr => ∃ (y t cp : Nat) (A' : Option Addr), y ≤ b ∧ i = .int .i64 y ∧ Hid (t = y * a) ∧ Blk wr (w.heap.size + 1 + 1) 24 #[.int .i64 a, .int .i64 b, .slice A' (t) cp] ∧
      Blk wr (w.heap.size + 1) 24 #[.int .i64 0, .int .i64 0, .slice none 0 0] ∧ Blk wr w.heap.size 24 #[.int .i64 a, .int .i64 b, .slice (some ⟨bl, o, none⟩) (b * a) c] ∧
      wr.ownsRow w.heap.size 4 1 (.slice A' (t) cp) (t) ((Pl.tab a y (appF a b (cellF a bs) false true false s8)).map Value.bool) ∧ Below w.heap.size w wr)
    (fun i _ => b - (intOf i).toNat)
  case atStart => exact ⟨0, 0, 0, none, Nat.zero_le _, rfl, Lib.hid (by simp), S1.blk 2 rfl, S1.blk 1 rfl, S1.blk 0 rfl, by simpa [Pl.tab_zero] using World.ownsRow_nil _ _ _ _, S1.below⟩
  case round =>
    clear S0 S1
    obtain ⟨y, t, cp, A', hy, rfl, HT, hblk, hz, hg, hown, hbel⟩ := hrel
    by_cases hlt : y < b
    · go_wp2_with fail
      go_loopw [29] (fun i wr => ∃ (x t cp : Nat) (A' : Option Addr), x ≤ a ∧ i = .int .i64 x ∧ Hid (t = y * a + x) ∧ Blk wr (w.heap.size + 1 + 1) 24 #[.int .i64 a, .int .i64 b, .slice A' (t) cp] ∧
      Blk wr (w.heap.size + 1) 24 #[.int .i64 0, .int .i64 0, .slice none 0 0] ∧ Blk wr w.heap.size 24 #[.int .i64 a, .int .i64 b, .slice (some ⟨bl, o, none⟩) (b * a) c] ∧
      wr.ownsRow w.heap.size 4 1 (.slice A' (t) cp) (t) ((Pl.tab a y (appF a b (cellF a bs) false true false s8) ++ (List.range x).map fun x => (appF a b (cellF a bs) false true false s8) x y).map Value.bool) ∧ Below w.heap.size w wr)
        (fun i _ => a - (intOf i).toNat)
      case atStart => exact ⟨0, t, cp, A', Nat.zero_le _, rfl, Lib.hid (by rw [HT.out]; rfl), hblk, hz, hg, by simpa using hown, hbel⟩
      case round =>
        clear hblk hz hg hown hbel A' HT
        obtain ⟨x, t, cp, A', hx, rfl, HT, hblk, hz, hg, hown, hbel⟩ := hrel
        by_cases hltx : x < a
        · have hsm : t + 1 ≤ 1048576 := by
            rw [HT.out]
            have h1 := Pl.cell_lt (w := a) (h := b) hltx hlt
            have h2 : b * a ≤ 64 * 64 := Nat.mul_le_mul (by omega) (by omega)
            omega
          have hsx : w.heap.size ≤ wr.heap.size := hbel.size
          obtain ⟨u, hu⟩ : ∃ q : Nat, x = q := ⟨_, rfl⟩
          obtain ⟨v, hv⟩ : ∃ q : Nat, b - 1 - y = q := ⟨_, rfl⟩
          have HF : Hid ((appF a b (cellF a bs) false true false s8) x y = !(bs.getD (v * a + u) false == s8)) := Lib.hid (by
            unfold appF cellF
            simp only [if_true, Bool.false_eq_true, if_false]
            rw [hu, hv]
            rfl)
          have hua : u < a := by omega
          have hvb : v < b := by omega
          have hV : (b : Int) - 1 - (y : Int) = (v : Int) := by omega
          have hF := Pl.cell_lt (w := a) (h := b) hua hvb
          have hcell : wr.cell? ⟨bl, o + (v * a + u), none⟩ = some (.bool (bs.getD (v * a + u) false)) := HRd.out wr hbel _ _ (by
            have := HB.out
            rw [List.getElem?_map, List.getElem?_eq_getElem (by omega)]
            simp [List.getD, show v * a + u < bs.length by omega])
          have m1 : (v : Int) * (a : Int) = ((v * a : Nat) : Int) := (Int.natCast_mul v a).symm
          skip
          have m4b : ((v * a : Nat) : Int) + (x : Int) = ((v * a + u : Nat) : Int) := by omega
          clear hu hv
          have m2 : v * a ≤ 64 * 64 := Nat.mul_le_mul (by omega) (by omega)
          have m3 : IntKind.i64.wrap ((v * a : Nat) : Int) = ((v * a : Nat) : Int) := IntWalk.i64_in _ (by omega)
          have m4 : ((v * a : Nat) : Int) + (u : Int) = ((v * a + u : Nat) : Int) := by omega
          have m5 : IntKind.i64.wrap ((v * a + u : Nat) : Int) = ((v * a + u : Nat) : Int) := IntWalk.i64_in _ (by omega)
          generalize bs.getD (v * a + u) false = p at *
          have hvn : v * a + u < b * a := hF
          generalize b * a = n at *
          generalize v * a + u = q at *
          generalize v * a = r at *
          obtain ⟨c0, c1, c2⟩ := hg.cell3
          have cc2 := hblk.cell 2
          have cc2a := fun o => (hblk.alloc o).cell 2
          go_wp2_with fail
          try simp only [hU]
          try simp only [hV]
          go_region_law
            (first
              | (refine step_app _ rfl (.tmp 56) (.tmp 71) 22 rfl w.heap.size 4 i0 (.bool false) 1 Tryd.underlying22 hi hz0 hz1 hz2 rfl (by decide) (.slice A' t cp) t _ rfl ((hown.alloc _).drew) wr.heap.size (.bool (!(p == s8))) rfl (new_cell wr _ _) rfl hsm (size_alloc_le hsx _) ?_; intro g' cp' w3 hown3 hgr3; have hblk3 := ((hblk.alloc _).drew).grown hgr3 (own_blk_ne hown hblk (by decide)); have hfz3 := hblk3.frozen 2; have cc3 := hblk3.cell 2)
              | fail)
          all_goals
            have TL := Lib.hid (app_tail hblk hz hg hown hbel _ hown3 hgr3)
            clear hown hbel hblk hz hg cc2 cc2a hown3 hgr3 hblk3 c0 c1 c2 hcell
            go_wp2_with fail
            go_roundw
            case rel => exact ⟨x + 1, t + 1, cp', some ⟨g', 0, none⟩, by omega, by go_num, Lib.hid (by rw [HT.out]; rfl), TL.out.1, TL.out.2.1, TL.out.2.2.1, by rw [tab_step, HF.out]; exact TL.out.2.2.2.1, TL.out.2.2.2.2⟩
            case measure => simp [intOf]; omega
        · have hxa : x = a := by omega
          subst hxa
          go_wp2_with fail
          go_roundw
          case rel => exact ⟨y + 1, t, cp, A', by omega, by go_num, Lib.hid (by rw [HT.out, Nat.succ_mul]), hblk, hz, hg, by rw [Pl.tab_succ]; exact hown, hbel⟩
          case measure => simp [intOf]; omega
    · have hyb : y = b := by omega
      subst hyb
      obtain ⟨c0, c1, c2⟩ := hblk.cell3
      obtain ⟨r0, r1, r2⟩ := hz.cell3
      obtain ⟨f0, f1, f2⟩ := hz.frozen3
      obtain ⟨q0, q1, q2⟩ := (hz.set3 (.int .i64 a) (.int .i64 y) (.slice A' t cp)).cell3
      go_wp2_with fail
      refine bodyPost_ret (v := .agg #[.int .i64 a, .int .i64 y, .slice A' t cp]) (by simp [results, Tryd.results33, go_sem, q0, q1, q2]) rfl ?_
      exact ⟨A', _, cp, rfl, own_set3 hown hz (by decide) _ _ _, below_set3 hbel (by omega) _ _ _⟩
end Go.Proofs.YtliibficmdomjaaDoor
