/- symmetry.window: a part of the plane of a grid. -/
import Derived.Test.YtliibficmdomjaaDoorMg7z
import Derived.Test.YtliibficmdomjaaDoorMg8z
namespace Go.Proofs.YtliibficmdomjaaDoor
open Go.RowKit

set_option linter.unusedSimpArgs false in
set_option maxHeartbeats 40000000 in
set_option maxRecDepth 100000 in
theorem window_any (a b X Y P Q bl o c : Nat) (bs : List Bool) (w : World) (ha1 : 1 ≤ a) (hb1 : 1 ≤ b) (ha : a ≤ 64) (hb : b ≤ 64) (hX : X ≤ 64) (hY : Y ≤ 64) (hP : P ≤ 64) (hQ : Q ≤ 64) (hr : Rd w (some ⟨bl, o, none⟩) (b * a) (bs.map Value.bool)) :
    Calls Tryd.prog 35 #[.agg #[.int .i64 a, .int .i64 b, .slice (some ⟨bl, o, none⟩) (b * a) c], .int .i64 X, .int .i64 Y, .int .i64 P, .int .i64 Q] w (RetT (winG a b bs X Y P Q) w) := by
  unfold winG tabD
  obtain ⟨i0, hi, hz0, hz1, hz2⟩ := info_parts Tryd.infoB
  have S0 := (((St.start w).box #[.int .i64 a, .int .i64 b, .slice (some ⟨bl, o, none⟩) (b * a) c] 24).box #[.int .i64 0, .int .i64 0, .slice none 0 0] 24).box #[.int .i64 P, .int .i64 Q, .slice none 0 0] 24
  simp only [size_alloc1, List.nil_append, List.cons_append] at S0
  have hbs : bs.length = b * a := by simpa using hr.len
  have HB := Lib.hid hbs
  have HRd := Lib.hid (fun wz (hz : Below w.heap.size w wz) => (hr.below hz).lit)
  have n1 : ¬ (a : Int) = 0 := by omega
  have n2 : ¬ (b : Int) = 0 := by omega
  have n3 : ¬ a = 0 := by omega
  have n4 : ¬ b = 0 := by omega
  clear hr hbs
  go_enter Tryd.func35, Tryd.ntmps35
  go_wp2_with fail
  go_loopw [18] (fun i wr => ∃ (y t cp : Nat) (A' : Option Addr), y ≤ Q ∧ i = .int .i64 y ∧ Hid (t = y * P) ∧ Blk wr (w.heap.size + 1 + 1) 24 #[.int .i64 P, .int .i64 Q, .slice A' (t) cp] ∧
      Blk wr (w.heap.size + 1) 24 #[.int .i64 0, .int .i64 0, .slice none 0 0] ∧ Blk wr w.heap.size 24 #[.int .i64 a, .int .i64 b, .slice (some ⟨bl, o, none⟩) (b * a) c] ∧
      wr.ownsRow w.heap.size 4 1 (.slice A' (t) cp) (t) ((Pl.tab P y (winF a b bs X Y)).map Value.bool) ∧ Below w.heap.size w wr)
    (fun i _ => Q - (intOf i).toNat)
  case atStart => exact ⟨0, 0, 0, none, Nat.zero_le _, rfl, Lib.hid (by simp), S0.blk 2 rfl, S0.blk 1 rfl, S0.blk 0 rfl, by simpa [Pl.tab_zero] using World.ownsRow_nil _ _ _ _, S0.below⟩
  case round =>
    clear S0
    obtain ⟨y, t, cp, A', hy, rfl, HT, hblk, hz, hg, hown, hbel⟩ := hrel
    by_cases hlt : y < Q
    · go_wp2_with fail
      go_loopw [22] (fun i wr => ∃ (x t cp : Nat) (A' : Option Addr), x ≤ P ∧ i = .int .i64 x ∧ Hid (t = y * P + x) ∧ Blk wr (w.heap.size + 1 + 1) 24 #[.int .i64 P, .int .i64 Q, .slice A' (t) cp] ∧
      Blk wr (w.heap.size + 1) 24 #[.int .i64 0, .int .i64 0, .slice none 0 0] ∧ Blk wr w.heap.size 24 #[.int .i64 a, .int .i64 b, .slice (some ⟨bl, o, none⟩) (b * a) c] ∧
      wr.ownsRow w.heap.size 4 1 (.slice A' (t) cp) (t) ((Pl.tab P y (winF a b bs X Y) ++ (List.range x).map fun x => winF a b bs X Y x y).map Value.bool) ∧ Below w.heap.size w wr)
        (fun i _ => P - (intOf i).toNat)
      case atStart => exact ⟨0, t, cp, A', Nat.zero_le _, rfl, Lib.hid (by rw [HT.out]; rfl), hblk, hz, hg, by simpa using hown, hbel⟩
      case round =>
        clear hblk hz hg hown hbel A' HT
        obtain ⟨x, t, cp, A', hx, rfl, HT, hblk, hz, hg, hown, hbel⟩ := hrel
        by_cases hltx : x < P
        · have hsm : t + 1 ≤ 1048576 := by
            rw [HT.out]
            have h1 := Pl.cell_lt (w := P) (h := Q) hltx hlt
            have h2 : Q * P ≤ 64 * 64 := Nat.mul_le_mul (by omega) (by omega)
            omega
          have hsx : w.heap.size ≤ wr.heap.size := hbel.size
          have HF : Hid (winF a b bs X Y x y = bs.getD ((Y + y) % b * a + (X + x) % a) false) := Lib.hid rfl
          have hua : (X + x) % a < a := Nat.mod_lt _ (by omega)
          have hvb : (Y + y) % b < b := Nat.mod_lt _ (by omega)
          have hF := Pl.cell_lt (w := a) (h := b) hua hvb
          have hcell : wr.cell? ⟨bl, o + ((Y + y) % b * a + (X + x) % a), none⟩ = some (.bool (bs.getD ((Y + y) % b * a + (X + x) % a) false)) := HRd.out wr hbel _ _ (by
            have := HB.out
            rw [List.getElem?_map, List.getElem?_eq_getElem (by omega)]
            simp [List.getD, show (Y + y) % b * a + (X + x) % a < bs.length by omega])
          have e2 : ((Y : Int) + (y : Int)).tmod (b : Int) = (((Y + y) % b : Nat) : Int) := by rw [Int.tmod_eq_emod_of_nonneg (by omega), ← Int.natCast_add]; exact (Int.natCast_emod _ _).symm
          have e2' : ((Y : Int) + (y : Int)) % (b : Int) = (((Y + y) % b : Nat) : Int) := by rw [← Int.natCast_add]; exact (Int.natCast_emod _ _).symm
          have e4 : ((X : Int) + (x : Int)).tmod (a : Int) = (((X + x) % a : Nat) : Int) := by rw [Int.tmod_eq_emod_of_nonneg (by omega), ← Int.natCast_add]; exact (Int.natCast_emod _ _).symm
          have e4' : ((X : Int) + (x : Int)) % (a : Int) = (((X + x) % a : Nat) : Int) := by rw [← Int.natCast_add]; exact (Int.natCast_emod _ _).symm
          have HCE := Lib.hid (fun wz (hz : Below w.heap.size w wz) => show wz.cell? ⟨bl, o + ((Y + y) % b * a + (X + x) % a), none⟩ = some (.bool (bs.getD ((Y + y) % b * a + (X + x) % a) false)) from HRd.out wz hz _ _ (by
            have := HB.out
            rw [List.getElem?_map, List.getElem?_eq_getElem (by omega)]
            simp [List.getD, show (Y + y) % b * a + (X + x) % a < bs.length by omega]))
          generalize bs.getD ((Y + y) % b * a + (X + x) % a) false = p at *
          generalize (Y + y) % b = v at *
          generalize (X + x) % a = u at *
          have m1 : (v : Int) * (a : Int) = ((v * a : Nat) : Int) := (Int.natCast_mul v a).symm
          have m2 : v * a ≤ 64 * 64 := Nat.mul_le_mul (by omega) (by omega)
          have m3 : IntKind.i64.wrap ((v * a : Nat) : Int) = ((v * a : Nat) : Int) := IntWalk.i64_in _ (by omega)
          have m4 : ((v * a : Nat) : Int) + (u : Int) = ((v * a + u : Nat) : Int) := by omega
          have m5 : IntKind.i64.wrap ((v * a + u : Nat) : Int) = ((v * a + u : Nat) : Int) := IntWalk.i64_in _ (by omega)
          have m6 : IntKind.i64.wrap ((Y : Int) + (y : Int)) = (Y : Int) + (y : Int) := IntWalk.i64_in _ (by omega)
          have m7 : IntKind.i64.wrap ((X : Int) + (x : Int)) = (X : Int) + (x : Int) := IntWalk.i64_in _ (by omega)
          have m8 : IntKind.i64.wrap (v : Int) = (v : Int) := IntWalk.i64_in _ (by omega)
          have m9 : IntKind.i64.wrap (u : Int) = (u : Int) := IntWalk.i64_in _ (by omega)
          have hvn : v * a + u < b * a := hF
          generalize b * a = n at *
          generalize v * a + u = q at *
          generalize v * a = r at *
          have HCL := Lib.hid (fun wz (hz : Below w.heap.size w wz) => HCE.out wz hz)
          obtain ⟨c0, c1, c2⟩ := hg.cell3
          have cc2 := hblk.cell 2
          have cc2a := fun o => (hblk.alloc o).cell 2
          have fz2 := hblk.frozen 2
          clear hcell
          go_wp2_with fail
          refine wp_region_held_drew (S := (fun w' => (w'.cell? ⟨w.heap.size, 0, none⟩ = some (.int .i64 a) ∧ w'.cell? ⟨w.heap.size, 1, none⟩ = some (.int .i64 b) ∧ w'.cell? ⟨w.heap.size, 2, none⟩ = some (.slice (some ⟨bl, o, none⟩) n c)) ∧ w'.cell? ⟨bl, o + q, none⟩ = some (.bool p))) (by kernel_rfl) ?_ (fun hHeld => ?_)
          · (try dsimp only); first | exact ⟨(hg3.far (by simp; omega) _).cell3, HCL.out _ (hbel3.setCell (by simp; omega) _)⟩ | exact ⟨hg3.cell3, HCL.out _ hbel3⟩ | exact ⟨(hg.alloc _).cell3, HCL.out _ (hbel.alloc hsx _).drew⟩ | exact ⟨hg.cell3, HCL.out _ hbel.drew⟩
          refine man_take 0 25 (v := ?_) ⟨_, rfl, rfl⟩ (by kernel_rfl) (by kernel_rfl) (by kernel_rfl) (fun _ _ _ h => h) (by assumption) ?_ ?_
          rotate_left
          · intro oi ho; cases ho; refine ⟨by rfl, ?_⟩; intro w hSw; (try dsimp only at hSw); go_simp; try with_reducible rfl
          (try simp only [Act.put, List.setIfInBounds_toArray, List.set_cons_zero, List.set_cons_succ])
          refine man_take 2 27 (v := ?_) ⟨_, rfl, rfl⟩ (by kernel_rfl) (by kernel_rfl) (by kernel_rfl) (fun _ _ _ h => h) (by assumption) ?_ ?_
          rotate_left
          · intro oi ho; cases ho; refine ⟨by rfl, ?_⟩; intro w hSw; (try dsimp only at hSw); go_simp; try with_reducible rfl
          (try simp only [Act.put, List.setIfInBounds_toArray, List.set_cons_zero, List.set_cons_succ])
          refine man_take 3 28 (v := ?_) ⟨_, rfl, rfl⟩ (by kernel_rfl) (by kernel_rfl) (by kernel_rfl) (fun _ _ _ h => h) (by assumption) ?_ ?_
          rotate_left
          · intro oi ho; cases ho; refine ⟨by rfl, ?_⟩; intro w hSw; (try dsimp only at hSw); go_simp; try with_reducible rfl
          (try simp only [Act.put, List.setIfInBounds_toArray, List.set_cons_zero, List.set_cons_succ])
          refine man_take 4 29 (v := ?_) ⟨_, rfl, rfl⟩ (by kernel_rfl) (by kernel_rfl) (by kernel_rfl) (fun _ _ _ h => h) (by assumption) ?_ ?_
          rotate_left
          · intro oi ho; cases ho; refine ⟨by rfl, ?_⟩; intro w hSw; (try dsimp only at hSw); go_simp; try with_reducible rfl
          (try simp only [Act.put, List.setIfInBounds_toArray, List.set_cons_zero, List.set_cons_succ])
          refine man_take 5 30 (v := ?_) ⟨_, rfl, rfl⟩ (by kernel_rfl) (by kernel_rfl) (by kernel_rfl) (fun _ _ _ h => h) (by assumption) ?_ ?_
          rotate_left
          · intro oi ho; cases ho; refine ⟨by rfl, ?_⟩; intro w hSw; (try dsimp only at hSw); go_simp; try with_reducible rfl
          (try simp only [Act.put, List.setIfInBounds_toArray, List.set_cons_zero, List.set_cons_succ])
          refine man_take 6 31 (v := ?_) ⟨_, rfl, rfl⟩ (by kernel_rfl) (by kernel_rfl) (by kernel_rfl) (fun _ _ _ h => h) (by assumption) ?_ ?_
          rotate_left
          · intro oi ho; cases ho; refine ⟨by rfl, ?_⟩; intro w hSw; (try dsimp only at hSw); go_simp; try with_reducible rfl
          (try simp only [Act.put, List.setIfInBounds_toArray, List.set_cons_zero, List.set_cons_succ])
          refine man_take 7 32 (v := ?_) ⟨_, rfl, rfl⟩ (by kernel_rfl) (by kernel_rfl) (by kernel_rfl) (fun _ _ _ h => h) (by assumption) ?_ ?_
          rotate_left
          · intro oi ho; cases ho; refine ⟨by rfl, ?_⟩; intro w hSw; (try dsimp only at hSw); go_simp; try with_reducible rfl
          (try simp only [Act.put, List.setIfInBounds_toArray, List.set_cons_zero, List.set_cons_succ])
          refine man_take 8 33 (v := ?_) ⟨_, rfl, rfl⟩ (by kernel_rfl) (by kernel_rfl) (by kernel_rfl) (fun _ _ _ h => h) (by assumption) ?_ ?_
          rotate_left
          · intro oi ho; cases ho; refine ⟨by rfl, ?_⟩; intro w hSw; (try dsimp only at hSw); go_simp; try with_reducible rfl
          (try simp only [Act.put, List.setIfInBounds_toArray, List.set_cons_zero, List.set_cons_succ])
          refine man_take 9 34 (v := ?_) ⟨_, rfl, rfl⟩ (by kernel_rfl) (by kernel_rfl) (by kernel_rfl) (fun _ _ _ h => h) (by assumption) ?_ ?_
          rotate_left
          · intro oi ho; cases ho; refine ⟨by rfl, ?_⟩; intro w hSw; (try dsimp only at hSw); go_simp; try with_reducible rfl
          (try simp only [Act.put, List.setIfInBounds_toArray, List.set_cons_zero, List.set_cons_succ])
          refine man_take 10 35 (v := ?_) ⟨_, rfl, rfl⟩ (by kernel_rfl) (by kernel_rfl) (by kernel_rfl) (fun _ _ _ h => h) (by assumption) ?_ ?_
          rotate_left
          · intro oi ho; cases ho; refine ⟨by rfl, ?_⟩; intro w hSw; (try dsimp only at hSw); go_simp; try with_reducible rfl
          (try simp only [Act.put, List.setIfInBounds_toArray, List.set_cons_zero, List.set_cons_succ])
          refine man_take 11 36 (v := ?_) ⟨_, rfl, rfl⟩ (by kernel_rfl) (by kernel_rfl) (by kernel_rfl) (fun _ _ _ h => h) (by assumption) ?_ ?_
          rotate_left
          · intro oi ho; cases ho; refine ⟨by rfl, ?_⟩; intro w hSw; (try dsimp only at hSw); go_simp; try with_reducible rfl
          (try simp only [Act.put, List.setIfInBounds_toArray, List.set_cons_zero, List.set_cons_succ])
          refine man_take 12 37 (v := ?_) ⟨_, rfl, rfl⟩ (by kernel_rfl) (by kernel_rfl) (by kernel_rfl) (fun _ _ _ h => h) (by assumption) ?_ ?_
          rotate_left
          · intro oi ho; cases ho; refine ⟨by rfl, ?_⟩; intro w hSw; (try dsimp only at hSw); go_simp; try with_reducible rfl
          (try simp only [Act.put, List.setIfInBounds_toArray, List.set_cons_zero, List.set_cons_succ])
          refine man_take 13 38 (v := ?_) ⟨_, rfl, rfl⟩ (by kernel_rfl) (by kernel_rfl) (by kernel_rfl) (fun _ _ _ h => h) (by assumption) ?_ ?_
          rotate_left
          · intro oi ho; cases ho; refine ⟨by rfl, ?_⟩; intro w hSw; (try dsimp only at hSw); go_simp; try with_reducible rfl
          (try simp only [Act.put, List.setIfInBounds_toArray, List.set_cons_zero, List.set_cons_succ])
          refine man_take 14 39 (v := ?_) ⟨_, rfl, rfl⟩ (by kernel_rfl) (by kernel_rfl) (by kernel_rfl) (fun _ _ _ h => h) (by assumption) ?_ ?_
          rotate_left
          · intro oi ho; cases ho; refine ⟨by rfl, ?_⟩; intro w hSw; (try dsimp only at hSw); go_simp; try with_reducible rfl
          (try simp only [Act.put, List.setIfInBounds_toArray, List.set_cons_zero, List.set_cons_succ])
          refine man_take 15 40 (v := ?_) ⟨_, rfl, rfl⟩ (by kernel_rfl) (by kernel_rfl) (by kernel_rfl) (fun _ _ _ h => h) (by assumption) ?_ ?_
          rotate_left
          · intro oi ho; cases ho; refine ⟨by rfl, ?_⟩; intro w hSw; (try dsimp only at hSw); go_simp; try with_reducible rfl
          (try simp only [Act.put, List.setIfInBounds_toArray, List.set_cons_zero, List.set_cons_succ])
          refine man_take 16 41 (v := ?_) ⟨_, rfl, rfl⟩ (by kernel_rfl) (by kernel_rfl) (by kernel_rfl) (fun _ _ _ h => h) (by assumption) ?_ ?_
          rotate_left
          · intro oi ho; cases ho; refine ⟨by rfl, ?_⟩; intro w hSw; (try dsimp only at hSw); go_simp; try with_reducible rfl
          (try simp only [Act.put, List.setIfInBounds_toArray, List.set_cons_zero, List.set_cons_succ])
          refine man_take 17 42 (v := ?_) ⟨_, rfl, rfl⟩ (by kernel_rfl) (by kernel_rfl) (by kernel_rfl) (fun _ _ _ h => h) (by assumption) ?_ ?_
          rotate_left
          · intro oi ho; cases ho; refine ⟨by rfl, ?_⟩; intro w hSw; (try dsimp only at hSw); go_simp; try with_reducible rfl
          (try simp only [Act.put, List.setIfInBounds_toArray, List.set_cons_zero, List.set_cons_succ])
          refine man_take 18 43 (v := ?_) ⟨_, rfl, rfl⟩ (by kernel_rfl) (by kernel_rfl) (by kernel_rfl) (fun _ _ _ h => h) (by assumption) ?_ ?_
          rotate_left
          · intro oi ho; cases ho; refine ⟨by rfl, ?_⟩; intro w hSw; (try dsimp only at hSw); go_simp; try with_reducible rfl
          (try simp only [Act.put, List.setIfInBounds_toArray, List.set_cons_zero, List.set_cons_succ])
          refine man_take 19 44 (v := ?_) ⟨_, rfl, rfl⟩ (by kernel_rfl) (by kernel_rfl) (by kernel_rfl) (fun _ _ _ h => h) (by assumption) ?_ ?_
          rotate_left
          · intro oi ho; cases ho; refine ⟨by rfl, ?_⟩; intro w hSw; (try dsimp only at hSw); go_simp; try with_reducible rfl
          (try simp only [Act.put, List.setIfInBounds_toArray, List.set_cons_zero, List.set_cons_succ])
          refine man_take 20 45 (v := ?_) ⟨_, rfl, rfl⟩ (by kernel_rfl) (by kernel_rfl) (by kernel_rfl) (fun _ _ _ h => h) (by assumption) ?_ ?_
          rotate_left
          · intro oi ho; cases ho; refine ⟨by rfl, ?_⟩; intro w hSw; (try dsimp only at hSw); go_simp; try with_reducible rfl
          (try simp only [Act.put, List.setIfInBounds_toArray, List.set_cons_zero, List.set_cons_succ])
          refine man_take 21 46 (v := ?_) ⟨_, rfl, rfl⟩ (by kernel_rfl) (by kernel_rfl) (by kernel_rfl) (fun _ _ _ h => h) (by assumption) ?_ ?_
          rotate_left
          · intro oi ho; cases ho; refine ⟨by rfl, ?_⟩; intro w hSw; (try dsimp only at hSw); go_simp; try with_reducible rfl
          (try simp only [Act.put, List.setIfInBounds_toArray, List.set_cons_zero, List.set_cons_succ])
          refine man_two 1 22 rfl rfl (by kernel_rfl) (fun K hK => ?_) (fun K hK => ?_)
          · go_simp
            refine hK.out _ _ ?_ (fun hHeld => ?_)
            · (try dsimp only); first | exact ⟨(hg3.far (by simp; omega) _).cell3, HCL.out _ (hbel3.setCell (by simp; omega) _)⟩ | exact ⟨hg3.cell3, HCL.out _ hbel3⟩ | exact ⟨(hg.alloc _).cell3, HCL.out _ (hbel.alloc hsx _).drew⟩ | exact ⟨hg.cell3, HCL.out _ hbel.drew⟩
            clear hK K
            (try simp only [Act.put, List.setIfInBounds_toArray, List.set_cons_zero, List.set_cons_succ])
            refine man_run 22 rfl (by kernel_rfl) (fun K hK => ?_)
            go_simp
            refine hK.out _ _ ?_ (fun hHeld => ?_)
            · (try dsimp only); first | exact ⟨(hg3.far (by simp; omega) _).cell3, HCL.out _ (hbel3.setCell (by simp; omega) _)⟩ | exact ⟨hg3.cell3, HCL.out _ hbel3⟩ | exact ⟨(hg.alloc _).cell3, HCL.out _ (hbel.alloc hsx _).drew⟩ | exact ⟨hg.cell3, HCL.out _ hbel.drew⟩
            clear hK K
            (try simp only [Act.put, List.setIfInBounds_toArray, List.set_cons_zero, List.set_cons_succ])
            refine man_run 23 rfl (by kernel_rfl) (fun K hK => ?_)
            refine step_app _ rfl (.tmp 26) (.tmp 47) 22 rfl w.heap.size 4 i0 (.bool false) 1 Tryd.underlying22 hi hz0 hz1 hz2 rfl (by decide) (.slice A' t cp) t _ rfl ((hown.alloc _).drew) wr.heap.size (.bool p) rfl (new_cell wr _ _) rfl hsm (size_alloc_le hsx _) ?_
            intro g' cp' w3 hown3 hgr3
            have hblk3 := ((hblk.alloc _).drew).grown hgr3 (own_blk_ne hown hblk (by decide))
            have hg3 := ((hg.alloc _).drew).grown hgr3 (own_blk_ne hown hg (by decide))
            have hbel3 := ((hbel.alloc hsx _).drew).grown hgr3 (size_alloc_le hsx _) (fun k hk => (hown.lt k hk).1)
            have hfz3 := hblk3.frozen 2
            have cc3 := hblk3.cell 2
            refine hK.out _ _ ?_ (fun hHeld => ?_)
            · (try dsimp only); first | exact ⟨(hg3.far (by simp; omega) _).cell3, HCL.out _ (hbel3.setCell (by simp; omega) _)⟩ | exact ⟨hg3.cell3, HCL.out _ hbel3⟩ | exact ⟨(hg.alloc _).cell3, HCL.out _ (hbel.alloc hsx _).drew⟩ | exact ⟨hg.cell3, HCL.out _ hbel.drew⟩
            clear hK K
            (try simp only [Act.put, List.setIfInBounds_toArray, List.set_cons_zero, List.set_cons_succ])
            refine man_take 24 49 (v := ?_) ⟨_, rfl, rfl⟩ (by kernel_rfl) (by kernel_rfl) (by kernel_rfl) (fun _ _ _ h => h) (by assumption) ?_ ?_
            rotate_left
            · intro oi ho; cases ho; refine ⟨by rfl, ?_⟩; intro w hSw; (try dsimp only at hSw); go_simp; try with_reducible rfl
            (try simp only [Act.put, List.setIfInBounds_toArray, List.set_cons_zero, List.set_cons_succ])
            refine man_run 25 rfl (by kernel_rfl) (fun K hK => ?_)
            go_simp
            refine hK.out _ _ ?_ (fun hHeld => ?_)
            · (try dsimp only); first | exact ⟨(hg3.far (by simp; omega) _).cell3, HCL.out _ (hbel3.setCell (by simp; omega) _)⟩ | exact ⟨hg3.cell3, HCL.out _ hbel3⟩ | exact ⟨(hg.alloc _).cell3, HCL.out _ (hbel.alloc hsx _).drew⟩ | exact ⟨hg.cell3, HCL.out _ hbel.drew⟩
            clear hK K
            refine wpAnyH_done (by kernel_rfl) ?_ _
            have TL := Lib.hid (app_tail hblk hz hg hown hbel _ hown3 hgr3)
            clear hown hbel hblk hz hg cc2 cc2a hown3 hgr3 hblk3 hg3 hbel3 c0 c1 c2
            go_wp2_with fail
            go_roundw
            case rel => exact ⟨x + 1, t + 1, cp', some ⟨g', 0, none⟩, by omega, by go_num, Lib.hid (by rw [HT.out]; rfl), TL.out.1, TL.out.2.1, TL.out.2.2.1, by rw [tab_step, HF.out]; exact TL.out.2.2.2.1, TL.out.2.2.2.2⟩
            case measure => simp [intOf]; omega
          · go_simp
            refine hK.out _ _ ?_ (fun hHeld => ?_)
            · (try dsimp only); first | exact ⟨(hg3.far (by simp; omega) _).cell3, HCL.out _ (hbel3.setCell (by simp; omega) _)⟩ | exact ⟨hg3.cell3, HCL.out _ hbel3⟩ | exact ⟨(hg.alloc _).cell3, HCL.out _ (hbel.alloc hsx _).drew⟩ | exact ⟨hg.cell3, HCL.out _ hbel.drew⟩
            clear hK K
            (try simp only [Act.put, List.setIfInBounds_toArray, List.set_cons_zero, List.set_cons_succ])
            refine man_run 1 rfl (by kernel_rfl) (fun K hK => ?_)
            go_simp
            refine hK.out _ _ ?_ (fun hHeld => ?_)
            · (try dsimp only); first | exact ⟨(hg3.far (by simp; omega) _).cell3, HCL.out _ (hbel3.setCell (by simp; omega) _)⟩ | exact ⟨hg3.cell3, HCL.out _ hbel3⟩ | exact ⟨(hg.alloc _).cell3, HCL.out _ (hbel.alloc hsx _).drew⟩ | exact ⟨hg.cell3, HCL.out _ hbel.drew⟩
            clear hK K
            (try simp only [Act.put, List.setIfInBounds_toArray, List.set_cons_zero, List.set_cons_succ])
            refine man_run 23 rfl (by kernel_rfl) (fun K hK => ?_)
            refine step_app _ rfl (.tmp 26) (.tmp 47) 22 rfl w.heap.size 4 i0 (.bool false) 1 Tryd.underlying22 hi hz0 hz1 hz2 rfl (by decide) (.slice A' t cp) t _ rfl ((hown.alloc _).drew) wr.heap.size (.bool p) rfl (new_cell wr _ _) rfl hsm (size_alloc_le hsx _) ?_
            intro g' cp' w3 hown3 hgr3
            have hblk3 := ((hblk.alloc _).drew).grown hgr3 (own_blk_ne hown hblk (by decide))
            have hg3 := ((hg.alloc _).drew).grown hgr3 (own_blk_ne hown hg (by decide))
            have hbel3 := ((hbel.alloc hsx _).drew).grown hgr3 (size_alloc_le hsx _) (fun k hk => (hown.lt k hk).1)
            have hfz3 := hblk3.frozen 2
            have cc3 := hblk3.cell 2
            refine hK.out _ _ ?_ (fun hHeld => ?_)
            · (try dsimp only); first | exact ⟨(hg3.far (by simp; omega) _).cell3, HCL.out _ (hbel3.setCell (by simp; omega) _)⟩ | exact ⟨hg3.cell3, HCL.out _ hbel3⟩ | exact ⟨(hg.alloc _).cell3, HCL.out _ (hbel.alloc hsx _).drew⟩ | exact ⟨hg.cell3, HCL.out _ hbel.drew⟩
            clear hK K
            (try simp only [Act.put, List.setIfInBounds_toArray, List.set_cons_zero, List.set_cons_succ])
            refine man_take 24 49 (v := ?_) ⟨_, rfl, rfl⟩ (by kernel_rfl) (by kernel_rfl) (by kernel_rfl) (fun _ _ _ h => h) (by assumption) ?_ ?_
            rotate_left
            · intro oi ho; cases ho; refine ⟨by rfl, ?_⟩; intro w hSw; (try dsimp only at hSw); go_simp; try with_reducible rfl
            (try simp only [Act.put, List.setIfInBounds_toArray, List.set_cons_zero, List.set_cons_succ])
            refine man_run 25 rfl (by kernel_rfl) (fun K hK => ?_)
            go_simp
            refine hK.out _ _ ?_ (fun hHeld => ?_)
            · (try dsimp only); first | exact ⟨(hg3.far (by simp; omega) _).cell3, HCL.out _ (hbel3.setCell (by simp; omega) _)⟩ | exact ⟨hg3.cell3, HCL.out _ hbel3⟩ | exact ⟨(hg.alloc _).cell3, HCL.out _ (hbel.alloc hsx _).drew⟩ | exact ⟨hg.cell3, HCL.out _ hbel.drew⟩
            clear hK K
            refine wpAnyH_done (by kernel_rfl) ?_ _
            have TL := Lib.hid (app_tail hblk hz hg hown hbel _ hown3 hgr3)
            clear hown hbel hblk hz hg cc2 cc2a hown3 hgr3 hblk3 hg3 hbel3 c0 c1 c2
            go_wp2_with fail
            go_roundw
            case rel => exact ⟨x + 1, t + 1, cp', some ⟨g', 0, none⟩, by omega, by go_num, Lib.hid (by rw [HT.out]; rfl), TL.out.1, TL.out.2.1, TL.out.2.2.1, by rw [tab_step, HF.out]; exact TL.out.2.2.2.1, TL.out.2.2.2.2⟩
            case measure => simp [intOf]; omega
        · have hxa : x = P := by omega
          subst hxa
          go_wp2_with fail
          go_roundw
          case rel => exact ⟨y + 1, t, cp, A', by omega, by go_num, Lib.hid (by rw [HT.out, Nat.succ_mul]), hblk, hz, hg, by rw [Pl.tab_succ]; exact hown, hbel⟩
          case measure => simp [intOf]; omega
    · have hyb : y = Q := by omega
      subst hyb
      obtain ⟨c0, c1, c2⟩ := hblk.cell3
      obtain ⟨r0, r1, r2⟩ := hz.cell3
      obtain ⟨f0, f1, f2⟩ := hz.frozen3
      obtain ⟨q0, q1, q2⟩ := (hz.set3 (.int .i64 P) (.int .i64 y) (.slice A' t cp)).cell3
      go_wp2_with fail
      refine bodyPost_ret (v := .agg #[.int .i64 P, .int .i64 y, .slice A' t cp]) (by simp [results, Tryd.results35, go_sem, q0, q1, q2]) rfl ?_
      exact ⟨A', _, cp, rfl, own_set3 hown hz (by decide) _ _ _, below_set3 hbel (by omega) _ _ _⟩
end Go.Proofs.YtliibficmdomjaaDoor
