/- Counts of colours, and the text of an image, in plain Lean. No program in sight. -/
import Derived.Test.YtpfonniepinjnaaDoorIm
namespace Go.Proofs.YtpfonniepinjnaaDoor
open Go.RowKit

/-- How often each colour is among the first j cells. -/
def cntL (cs : List Int) (j : Nat) : List Int := (List.range 16).map fun (c : Nat) => (((cs.take j).count (c : Int) : Nat) : Int)
theorem cntL_len (cs : List Int) (j : Nat) : (cntL cs j).length = 16 := by simp [cntL]
theorem cntL_zero (cs : List Int) : cntL cs 0 = List.replicate 16 0 := by
  unfold cntL
  rw [List.take_zero]
  rfl
theorem cntL_at {cs : List Int} {j c : Nat} (hc : c < 16) : (cntL cs j).getD c 0 = (((cs.take j).count (c : Int) : Nat) : Int) := by
  unfold cntL
  rw [List.getD_eq_getElem?_getD, List.getElem?_map, List.getElem?_range hc]; rfl
theorem cntL_step {cs : List Int} {j c : Nat} (hj : j < cs.length) (hc : c < 16) (h : cs.getD j 0 = (c : Int)) : (cntL cs j).set c ((cntL cs j).getD c 0 + 1) = cntL cs (j + 1) := by
  have e : cs.take (j + 1) = cs.take j ++ [(c : Int)] := by
    rw [List.take_add_one, List.getElem?_eq_getElem hj]
    rw [List.getD_eq_getElem?_getD, List.getElem?_eq_getElem hj] at h
    simp only [Option.getD_some] at h
    rw [h]; rfl
  refine List.ext_getElem? fun i => ?_
  rw [List.getElem?_set]
  by_cases hi : c = i
  · subst hi
    rw [if_pos rfl, if_pos (by rw [cntL_len]; exact hc), cntL_at hc]
    unfold cntL
    rw [List.getElem?_map, List.getElem?_range hc, e]
    simp [List.count_append]
  · rw [if_neg hi]
    unfold cntL
    rw [List.getElem?_map, List.getElem?_map]
    by_cases hi2 : i < 16
    · rw [List.getElem?_range hi2, e]
      have : ([(c : Int)]).count (i : Int) = 0 := by
        rw [List.count_eq_zero]
        simp
        omega
      simp [List.count_append, this]
    · rw [List.getElem?_eq_none (by simp; omega)]; rfl
theorem cntL_le {cs : List Int} {j c : Nat} (hc : c < 16) : 0 ≤ (cntL cs j).getD c 0 ∧ (cntL cs j).getD c 0 ≤ j := by
  rw [cntL_at hc]
  have h1 := List.count_le_length (a := (c : Int)) (l := cs.take j)
  rw [List.length_take] at h1
  omega
def countsI (m : Im) : List Int × Int := if chkI m = 0 then (cntL m.c m.c.length, 0) else ([], chkI m)
theorem countsI_ok {m : Im} (h : chkI m = 0) : countsI m = (cntL m.c m.c.length, 0) := if_pos h
theorem countsI_bad {m : Im} (h : chkI m ≠ 0) : countsI m = ([], chkI m) := if_neg h

/-! The text of an image: rows from the top. -/
def chI (c : Int) : UInt8 := UInt8.ofNat (97 + c).toNat
theorem chI_nat {c : Int} (h0 : 0 ≤ c) (h1 : c ≤ 15) : ((chI c).toNat : Int) = 97 + c := by
  unfold chI
  rw [UInt8.toNat_ofNat_of_lt' (by show _ < 256; omega)]
  omega
def rowU (l : List Int) : List UInt8 := l.map chI ++ [10]
def downU (F : Nat → List UInt8) : Nat → List UInt8
  | 0 => []
  | k + 1 => F k ++ downU F k
def rowAtI (a : Nat) (cs : List Int) (y : Nat) : List Int := (cs.drop (y * a)).take a
def textU (a b : Nat) (cs : List Int) : List UInt8 := downU (fun y => rowU (rowAtI a cs y)) b
def textI (m : Im) : List UInt8 × Int := if chkI m = 0 then (textU m.w.toNat m.h.toNat m.c, 0) else ([], chkI m)
theorem textI_ok {a b : Nat} {cs : List Int} (h : chkI ⟨a, b, cs⟩ = 0) : textI ⟨a, b, cs⟩ = (textU a b cs, 0) := by unfold textI; rw [if_pos h]; rfl
theorem textI_bad {m : Im} (h : chkI m ≠ 0) : textI m = ([], chkI m) := if_neg h
theorem rowAtI_length {a b y : Nat} {cs : List Int} (hl : cs.length = b * a) (hy : y < b) : (rowAtI a cs y).length = a := by
  unfold rowAtI
  rw [List.length_take, List.length_drop, hl]
  have := Nat.mul_le_mul_right a (show y + 1 ≤ b from hy)
  rw [Nat.succ_mul] at this
  omega
theorem rowU_length (l : List Int) : (rowU l).length = l.length + 1 := by simp [rowU]
theorem downU_length {a : Nat} {F : Nat → List UInt8} : ∀ {k : Nat}, (∀ j, j < k → (F j).length = a) → (downU F k).length = k * a
  | 0, _ => by simp [downU]
  | k + 1, h => by
    have := downU_length (a := a) (F := F) (k := k) fun j hj => h j (by omega)
    show (F k ++ downU F k).length = _
    rw [List.length_append, h k (by omega), this, Nat.succ_mul]
    omega
theorem textU_length {a b : Nat} {cs : List Int} (hl : cs.length = b * a) : (textU a b cs).length = b * (a + 1) :=
  downU_length fun j hj => by rw [rowU_length, rowAtI_length hl hj]
theorem rowAtI_get {a x y : Nat} {cs : List Int} (hx : x < a) : (rowAtI a cs y).getD x 0 = cs.getD (y * a + x) 0 := by
  unfold rowAtI
  rw [List.getD_eq_getElem?_getD, List.getD_eq_getElem?_getD, List.getElem?_take, if_pos hx, List.getElem?_drop]
theorem accU_take (acc : List UInt8) (l : List Int) (x : Nat) (h : x < l.length) : acc ++ (l.take (x + 1)).map chI = (acc ++ (l.take x).map chI) ++ [chI (l.getD x 0)] := by
  rw [List.take_add_one, List.getElem?_eq_getElem h, List.getD_eq_getElem?_getD, List.getElem?_eq_getElem h, List.map_append, ← List.append_assoc]
  rfl
end Go.Proofs.YtpfonniepinjnaaDoor
