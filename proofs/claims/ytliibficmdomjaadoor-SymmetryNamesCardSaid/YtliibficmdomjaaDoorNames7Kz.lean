/- The contracts of layer 7 at the examples of the law SymmetryNames. -/
import Derived.Test.YtliibficmdomjaaDoorMg14z
import Derived.Test.YtliibficmdomjaaDoorTextPz
import Derived.Test.YtliibficmdomjaaDoorAlive7z
import Derived.Test.YtliibficmdomjaaDoorErrGz
import Derived.Test.YtliibficmdomjaaDoorTextz
namespace Go.Proofs.YtliibficmdomjaaDoor
open Go.RowKit
set_option linter.unusedVariables false

def nr : Gd := (parseG [120, 46, 46, 10, 46, 120, 120, 10]).1
theorem nr_p : parseG [120, 46, 46, 10, 46, 120, 120, 10] = (nr, 0) := Prod.ext rfl (by decide +kernel)
theorem nr_s : startG nr = 0 := by decide +kernel
def na : Gd := (parseG [120, 120, 46, 10, 46, 46, 46, 10]).1
theorem na_p : parseG [120, 120, 46, 10, 46, 46, 46, 10] = (na, 0) := Prod.ext rfl (by decide +kernel)
theorem na_s : startG na = 0 := by decide +kernel
def nc : Gd := (parseG [120, 120, 46, 46, 10, 46, 120, 120, 46, 10, 46, 46, 120, 120, 10, 120, 46, 46, 120, 10]).1
theorem nc_p : parseG [120, 120, 46, 46, 10, 46, 120, 120, 46, 10, 46, 46, 120, 120, 10, 120, 46, 46, 120, 10] = (nc, 0) := Prod.ext rfl (by decide +kernel)
theorem nc_s : startG nc = 0 := by decide +kernel
def nq : Gd := (parseG [120, 120, 10, 46, 120, 10, 120, 120, 10, 46, 120, 10]).1
theorem nq_p : parseG [120, 120, 10, 46, 120, 10, 120, 120, 10, 46, 120, 10] = (nq, 0) := Prod.ext rfl (by decide +kernel)
theorem nq_s : startG nq = 0 := by decide +kernel
def nd : Gd := (parseG [46, 120, 10, 46, 46, 10]).1
theorem nd_p : parseG [46, 120, 10, 46, 46, 10] = (nd, 0) := Prod.ext rfl (by decide +kernel)
theorem nd_s : startG nd = 0 := by decide +kernel
theorem nr_l : alkL nr nr = [0, 1, 2, 3, 8, 9, 10, 11] := by decide +kernel
theorem nc_l : alkL twG nc = [1, 2, 5, 6, 9, 10, 13, 14] := by decide +kernel
def nb : Gd := (applyG na 13).1
theorem nb_e : applyG na 13 = (nb, 0) := Prod.ext rfl (by decide +kernel)
theorem nb_t : textG nb = ([120, 46, 10, 120, 46, 10, 120, 120, 10], 0) := by decide +kernel
theorem nq_l : leastG nq = ((nd, 8), 0) := by
  have e : (sameG (leastG nq).1.1 nd && decide ((leastG nq).1.2 = 8 ∧ (leastG nq).2 = 0)) = true := by decide +kernel
  rw [Bool.and_eq_true, sameG_iff] at e
  have e2 := of_decide_eq_true e.2
  exact Prod.ext (Prod.ext e.1 e2.1) e2.2
def nbig : Gd := ⟨17, 1, List.replicate 17 false⟩
theorem nbig_s : startG nbig = 4 := by decide +kernel
theorem nbig_l : leastG nbig = ((Gd.zero, 0), 4) := by unfold leastG; rw [if_pos (by rw [nbig_s]; decide), nbig_s]
theorem nbig_z : start2 nbig Gd.zero = 8 := by decide +kernel
theorem nt_16 : applyG twG 16 = (Gd.zero, 2) := Prod.ext (by unfold applyG; rw [if_neg (by rw [tw_s]; decide), if_pos (by omega)]) (by decide +kernel)
theorem nz_0 : applyG Gd.zero 0 = (Gd.zero, 8) := Prod.ext (by unfold applyG; rw [if_pos (by decide +kernel)]) (by decide +kernel)
/-- Two planes meet at a step, looked at within a common rectangle. -/
def mtB (g g' : Gd) (x y : Nat) : Bool := (List.range (Nat.lcm g.w.toNat g'.w.toNat)).all fun X => (List.range (Nat.lcm g.h.toNat g'.h.toNat)).all fun Y => pl g.w.toNat g.h.toNat g.bits (X : Int) (Y : Int) == pl g'.w.toNat g'.h.toNat g'.bits ((X : Int) + (x : Int)) ((Y : Int) + (y : Int))
theorem mtB_iff {g g' : Gd} (h1 : 1 ≤ g.w.toNat) (h2 : 1 ≤ g.h.toNat) (h3 : 1 ≤ g'.w.toNat) (h4 : 1 ≤ g'.h.toNat) (x y : Nat) : mtB g g' x y = true ↔ Meets g.w.toNat g.h.toNat g.bits g'.w.toNat g'.h.toNat g'.bits (x : Int) (y : Int) := by
  unfold mtB
  rw [meets_range (Nat.dvd_lcm_left _ _) (Nat.dvd_lcm_right _ _) (Nat.dvd_lcm_left _ _) (Nat.dvd_lcm_right _ _) (Nat.lcm_pos h1 h3) (Nat.lcm_pos h2 h4)]
  simp only [List.all_eq_true, List.mem_range, beq_iff_eq]
  exact ⟨fun h x y hx hy => h x hx y hy, fun h x hx y hy => h x y hx hy⟩
theorem n8_r {p : Int × Int} {e : Int} (h : OffR twG (appG twG.w.toNat twG.h.toNat twG.bits 8) (p, e)) : p = (2, 0) ∧ e = 0 := by
  have k : OffR twG (appG twG.w.toNat twG.h.toNat twG.bits 8) ((2, 0), 0) := by
    refine .inr (.inl ⟨by decide +kernel, 2, 0, ⟨?_, ?_⟩, rfl⟩)
    · exact (mtB_iff (by decide +kernel) (by decide +kernel) (by decide +kernel) (by decide +kernel) 2 0).1 (by decide +kernel)
    · intro x' y' hl hm
      have k := (mtB_iff (by decide +kernel) (by decide +kernel) (by decide +kernel) (by decide +kernel) x' y').2 hm
      obtain rfl : y' = 0 := by omega
      have hx : x' = 0 ∨ x' = 1 := by omega
      rcases hx with rfl | rfl <;> revert k <;> decide +kernel
  have u := h.unique k
  injection u with u1 u2
  exact ⟨u1, u2⟩
theorem n1_r {p : Int × Int} {e : Int} (h : OffR twG (appG twG.w.toNat twG.h.toNat twG.bits 1) (p, e)) : p = (0, 0) ∧ e = 6 := by
  have k : meetN twG (appT twG 1) = false := by decide +kernel
  rcases h with ⟨h1, _⟩ | ⟨_, x, y, h2, _⟩ | ⟨_, _, h3⟩
  · exact absurd (by decide +kernel) h1
  · exfalso
    have := (meetN_iff (g := twG) (g' := appT twG 1) (by decide +kernel) (by decide +kernel) (by decide +kernel) (by decide +kernel)).2 ⟨_, _, h2.1⟩
    rw [k] at this
    cases this
  · injection h3 with u1 u2
    exact ⟨u1, u2⟩
theorem kc_nr (W : World) : Calls Tryd.prog 24 #[str [120, 46, 46, 10, 46, 120, 120, 10]] W (RetT nr W) := cloth_to _ nr 0 (by decide) nr_p W
theorem kc_na (W : World) : Calls Tryd.prog 24 #[str [120, 120, 46, 10, 46, 46, 46, 10]] W (RetT na W) := cloth_to _ na 0 (by decide) na_p W
theorem kc_nc (W : World) : Calls Tryd.prog 24 #[str [120, 120, 46, 46, 10, 46, 120, 120, 46, 10, 46, 46, 120, 120, 10, 120, 46, 46, 120, 10]] W (RetT nc W) := cloth_to _ nc 0 (by decide) nc_p W
theorem kc_nq (W : World) : Calls Tryd.prog 24 #[str [120, 120, 10, 46, 120, 10, 120, 120, 10, 46, 120, 10]] W (RetT nq W) := cloth_to _ nq 0 (by decide) nq_p W
theorem kc_nd (W : World) : Calls Tryd.prog 24 #[str [46, 120, 10, 46, 46, 10]] W (RetT nd W) := cloth_to _ nd 0 (by decide) nd_p W
theorem hasr_ok {g : Gd} {op : Nat} (h0 : startG g = 0) (ho : op < 16) {b : Bool} {x y : Int} (hu : ∀ p e, OffR g (appG g.w.toNat g.h.toNat g.bits op) (p, e) → p = (x, y) ∧ (decide (e = 0)) = b) {r : (Bool × Int × Int) × Int} (h : HasR g (op : Int) r) : r = ((b, x, y), 0) := by
  unfold HasR at h
  rw [if_neg (by omega), if_neg (by omega)] at h
  obtain ⟨p, e, h1, h2⟩ := h
  simp only [Int.toNat_natCast] at h1
  obtain ⟨u1, u2⟩ := hu p e h1
  rw [h2, u1, u2]
theorem kh8 (A : Option Addr) (n c : Nat) (W : World) (hr : Rd W A n (twG.bits.map Value.bool)) (hc : n ≤ c) : Calls Tryd.prog 20 #[.agg #[.int .i64 twG.w, .int .i64 twG.h, .slice A n c], .int .i64 8] W (fun e w' => e = .returned (.tuple #[.bool true, .agg #[.int .i64 2, .int .i64 0], .int .i64 0]) ∧ Below W.heap.size W w') :=
  (has_any twG 8 A n c W hr hc).mono fun e w' h => by
    obtain ⟨r, hR, rfl, hb⟩ := h
    rw [hasr_ok (op := 8) (b := true) (x := 2) (y := 0) tw_s (by omega) (fun p e h => by have k := n8_r h; exact ⟨k.1, by rw [k.2]; rfl⟩) hR]
    exact ⟨rfl, hb⟩
theorem kh1 (A : Option Addr) (n c : Nat) (W : World) (hr : Rd W A n (twG.bits.map Value.bool)) (hc : n ≤ c) : Calls Tryd.prog 20 #[.agg #[.int .i64 twG.w, .int .i64 twG.h, .slice A n c], .int .i64 1] W (fun e w' => e = .returned (.tuple #[.bool false, .agg #[.int .i64 0, .int .i64 0], .int .i64 0]) ∧ Below W.heap.size W w') :=
  (has_any twG 1 A n c W hr hc).mono fun e w' h => by
    obtain ⟨r, hR, rfl, hb⟩ := h
    rw [hasr_ok (op := 1) (b := false) (x := 0) (y := 0) tw_s (by omega) (fun p e h => by have k := n1_r h; exact ⟨k.1, by rw [k.2]; rfl⟩) hR]
    exact ⟨rfl, hb⟩
theorem khm (A : Option Addr) (n c : Nat) (W : World) (hr : Rd W A n (twG.bits.map Value.bool)) (hc : n ≤ c) : Calls Tryd.prog 20 #[.agg #[.int .i64 twG.w, .int .i64 twG.h, .slice A n c], .int .i64 (-1)] W (fun e w' => e = .returned (.tuple #[.bool false, .agg #[.int .i64 0, .int .i64 0], .int .i64 2]) ∧ Below W.heap.size W w') :=
  (has_any twG (-1) A n c W hr hc).mono fun e w' h => by
    obtain ⟨r, hR, rfl, hb⟩ := h
    rw [hR.unique (hasR_arg tw_s (.inl (by omega)))]
    exact ⟨rfl, hb⟩
theorem kabig (A : Option Addr) (n c : Nat) (W : World) (hr : Rd W A n (nbig.bits.map Value.bool)) (hc : n ≤ c) : Calls Tryd.prog 16 #[.agg #[.int .i64 nbig.w, .int .i64 nbig.h, .slice A n c]] W (RetL ([], 4) W) :=
  (all_any nbig A n c W hr hc).mono fun e w' h => by
    obtain ⟨r, hR, k⟩ := h
    unfold AllR at hR
    rw [if_pos (by rw [nbig_s]; decide), nbig_s] at hR
    rw [hR] at k
    exact k
theorem kalbig (A : Option Addr) (n c : Nat) (W : World) (hr : Rd W A n (nbig.bits.map Value.bool)) (hc : n ≤ c) : Calls Tryd.prog 15 #[.agg #[.int .i64 nbig.w, .int .i64 nbig.h, .slice A n c], .agg #[.int .i64 0, .int .i64 0, .slice none 0 0]] W (RetL ([], 8) W) :=
  (alikes_any nbig Gd.zero A none n c 0 0 W hr Rd.nil_ (Nat.le_refl _)).mono fun e w' h => by
    obtain ⟨r, hR, k⟩ := h
    unfold AlikeR at hR
    rw [if_pos (by rw [nbig_z]; decide), nbig_z] at hR
    rw [hR] at k
    exact k
theorem klbig (A : Option Addr) (n c : Nat) (W : World) (hr : Rd W A n (nbig.bits.map Value.bool)) (hc : n ≤ c) : Calls Tryd.prog 17 #[.agg #[.int .i64 nbig.w, .int .i64 nbig.h, .slice A n c]] W (fun e w' => ∃ A n c, e = .returned (.tuple #[.agg #[.int .i64 0, .int .i64 0, .slice A n c], .int .i64 0, .int .i64 4]) ∧ Below W.heap.size W w') :=
  (least_to (o := 0) nbig nbig_l rfl A n c W hr hc).mono fun e w' h => by
    obtain ⟨A, n, c, rfl, _, hb⟩ := h
    exact ⟨A, n, c, rfl, hb⟩
theorem rd17 (W : World) : Rd (W.alloc (.cells (madeCells #[Value.bool false] 17) 4)) (some ⟨W.heap.size, 0, none⟩) 17 ((List.replicate 17 false).map Value.bool) := by
  have h := rd_of_blk (Blk.new W 4 (madeCells #[Value.bool false] 17))
  have e1 : (madeCells #[Value.bool false] 17).size = 17 := by rw [size_madeCells]
  have e2 : (madeCells #[Value.bool false] 17).toList = (List.replicate 17 false).map Value.bool := by
    simp [madeCells, List.replicate]
    rfl
  rw [e1, e2] at h
  exact h
theorem kt16 (A : Option Addr) (n c : Nat) (W : World) (hr : Rd W A n (twG.bits.map Value.bool)) (hc : n ≤ c) : Calls Tryd.prog 12 #[.agg #[.int .i64 twG.w, .int .i64 twG.h, .slice A n c], .int .i64 16] W (ErrG 2 W) := by
  have h := apply_any twG 16 A n c W hr
  rw [nt_16] at h
  exact h.mono fun _ _ h => errG_of h
theorem kz0 (W : World) : Calls Tryd.prog 12 #[.agg #[.int .i64 0, .int .i64 0, .slice none 0 0], .int .i64 0] W (ErrG 8 W) := by
  have h := apply_any Gd.zero 0 none 0 0 W Rd.nil_
  rw [nz_0] at h
  exact h.mono fun _ _ h => errG_of h
theorem kco1 (W : World) : Calls Tryd.prog 11 #[.int .i64 (-1), .int .i64 0] W (fun e w' => e = .returned (.tuple #[.int .i64 0, .int .i64 2]) ∧ Below W.heap.size W w') := by
  have h := compose_any (-1) 0 W
  exact h.mono fun e w' q => ⟨by rw [q.1, compG_bad2 (by omega)], by rw [q.2]; exact Below.refl _ _⟩
theorem kco2 (W : World) : Calls Tryd.prog 11 #[.int .i64 0, .int .i64 16] W (fun e w' => e = .returned (.tuple #[.int .i64 0, .int .i64 2]) ∧ Below W.heap.size W w') := by
  have h := compose_any 0 16 W
  exact h.mono fun e w' q => ⟨by rw [q.1, compG_bad2 (by omega)], by rw [q.2]; exact Below.refl _ _⟩
theorem kin (W : World) : Calls Tryd.prog 13 #[.int .i64 16] W (fun e w' => e = .returned (.tuple #[.int .i64 0, .int .i64 2]) ∧ Below W.heap.size W w') := by
  have h := inverse_any 16 W
  exact h.mono fun e w' q => ⟨by rw [q.1]; rfl, by rw [q.2]; exact Below.refl _ _⟩
theorem ktx (A : Option Addr) (n c : Nat) (W : World) (hr : Rd W A n (nb.bits.map Value.bool)) (hc : n ≤ c) : Calls Tryd.prog 26 #[.agg #[.int .i64 nb.w, .int .i64 nb.h, .slice A n c]] W (fun e w' => e = .returned (.tuple #[str [120, 46, 10, 120, 46, 10, 120, 120, 10], .int .i64 0]) ∧ Below W.heap.size W w') := by
  have h := text_any nb A n c W hr hc
  rw [nb_t] at h
  exact h
end Go.Proofs.YtliibficmdomjaaDoor
