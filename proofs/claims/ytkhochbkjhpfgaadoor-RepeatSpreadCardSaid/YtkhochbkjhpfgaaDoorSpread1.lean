/- repeat.Spread's closure: a cell, spread over the plane, as a grid. -/
import Derived.Test.YtkhochbkjhpfgaaDoorSpreadP
import Derived.Test.YtkhochbkjhpfgaaDoorMade
import Derived.Test.YtkhochbkjhpfgaaDoorReps
import Derived.Outline
namespace Go.Proofs.YtkhochbkjhpfgaaDoor
open Go.RowKit

set_option maxHeartbeats 1000000 in
theorem spread1_gives (p q B a b bl o c Bg Bb : Nat) (bs : List Bool) (w : World) (ha1 : 1 ≤ a) (hb1 : 1 ≤ b) (ha : a ≤ 64) (hb : b ≤ 64) (hB : B < a) (hp : p ≤ 64) (hq : q ≤ 64) (hc : b * a ≤ c)
    (hg : Blk w Bg 33 #[.int .i64 a, .int .i64 b, .slice (some ⟨bl, o, none⟩) (b * a) c]) (hbb : Blk w Bb 3 #[.int .i64 B]) (hr : Rd w (some ⟨bl, o, none⟩) (b * a) (bs.map Value.bool)) :
    Gives 32 #[.pointer (some ⟨Bg, 0, none⟩), .pointer (some ⟨Bb, 0, none⟩)] p q (fun x y => pl a b bs ((x : Int) - ((y / b * B : Nat) : Int)) (y : Int)) w := by
  intro w' x y hbel hx hy
  show Calls _ _ _ _ fun e w'' => e = .returned (.bool (pl a b bs ((x : Int) - ((y / b * B : Nat) : Int)) (y : Int))) ∧ Below w'.heap.size w' w''
  have S0 := (((St.start w').addRd (hr.below hbel)).addBlk (hg.keep hbel)).addBlk (hbb.keep hbel)
  simp only [List.nil_append, List.cons_append] at S0
  obtain ⟨c0, c1, c2⟩ := (S0.blk 1 rfl).cell3
  have b0 := (S0.blk 2 rfl).cell 0
  have hD : (y : Int) / (b : Int) = ((y / b : Nat) : Int) := rfl
  have hDt : (y : Int).tdiv (b : Int) = ((y / b : Nat) : Int) := by rw [Int.tdiv_eq_ediv_of_nonneg (by omega)]; rfl
  have hDb : y / b ≤ 64 := Nat.le_trans (Nat.div_le_self _ _) (by omega)
  have hP : ((y / b : Nat) : Int) * (B : Int) = ((y / b * B : Nat) : Int) := (Int.natCast_mul _ _).symm
  have hPb : y / b * B ≤ 64 * 64 := Nat.mul_le_mul hDb (by omega)
  have hb0 : ¬ (b : Int) = 0 := by omega
  have hb00 : ¬ b = 0 := by omega
  generalize y / b * B = P at *
  generalize y / b = D at *
  have hw : IntKind.i64.wrap ((x : Int) - (P : Int)) = (x : Int) - (P : Int) := IntWalk.i64_in _ (by omega)
  have hwP : IntKind.i64.wrap (P : Int) = (P : Int) := IntWalk.i64_in _ (by omega)
  have hwD : IntKind.i64.wrap (D : Int) = (D : Int) := IntWalk.i64_in _ (by omega)
  obtain ⟨k, hk1, hk2, hk3⟩ : ∃ k : Nat, ((x : Int) - (P : Int)) % (a : Int) = (k : Int) ∧ k < a ∧ pl a b bs ((x : Int) - (P : Int)) (y : Int) = pl a b bs (k : Int) (y : Int) := by
    have h1 := Int.emod_nonneg ((x : Int) - (P : Int)) (show (a : Int) ≠ 0 by omega)
    have h2 := Int.emod_lt_of_pos ((x : Int) - (P : Int)) (show 0 < (a : Int) by omega)
    refine ⟨(((x : Int) - (P : Int)) % (a : Int)).toNat, by omega, by omega, pl_congr ?_ rfl⟩
    rw [Int.toNat_of_nonneg h1, Int.emod_emod]
  rw [hk3]
  have HK := Lib.hid hk1
  have hcellF := Lib.hid (fun wz (hz : Below w'.heap.size w' wz) => (rd_row (y : Int) ((hr.below hbel).below hz) hb1).lit k (.bool (pl a b bs (k : Int) (y : Int))) (by rw [List.getElem?_map, rowL_get hk2]; rfl))
  have hrowv := fun W => row_any a b bl o c (y : Int) W ha1 hb1 ha hb hc
  generalize ((y : Int) % (b : Int)).toNat * a = q at *
  generalize pl a b bs (k : Int) (y : Int) = v at *
  have HRow := Lib.hid hrowv
  clear hrowv hk1 hk3 hg hbb hr
  have SD := S0.drew
  go_enter Tryd.func32, Tryd.ntmps32
  go_wp2_with fail
  go_region_held3 (fun w'' => (w''.cell? ⟨Bg, 0, none⟩ = some (.int .i64 a) ∧ w''.cell? ⟨Bg, 1, none⟩ = some (.int .i64 b) ∧ w''.cell? ⟨Bg, 2, none⟩ = some (.slice (some ⟨bl, o, none⟩) (b * a) c)) ∧
      w''.cell? ⟨Bb, 0, none⟩ = some (.int .i64 B) ∧ w''.cell? ⟨bl, o + q + k, none⟩ = some (.bool v))
    (first | exact ⟨(SD.blk 1 rfl).cell3, by simpa using (SD.blk 2 rfl).cell 0, hcellF.out _ SD.below⟩ | go_keep)
    (first
      | (go_at_call 26; refine (rmod_to ((x : Int) - (P : Int)) (a : Int) _ HK.out (by omega) (by omega)).mono ?_; rintro ez wz ⟨rfl, rfl⟩)
      | (go_at_call 33; refine (HRow.out _).mono ?_; rintro ez wz ⟨rfl, hbz⟩; replace SD := SD.keep hbz)
      | fail)
  go_wp2_with fail
  go_ret
  exact ⟨rfl, SD.below⟩
end Go.Proofs.YtkhochbkjhpfgaaDoor
