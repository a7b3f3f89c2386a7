/- The contracts of layer 1 at the examples of the law GridNames. -/
import Derived.Test.YtebbcpeldncekaaDoorAlive1z
import Derived.Test.YtebbcpeldncekaaDoorErrGz
import Derived.Test.YtebbcpeldncekaaDoorOps1z
import Derived.Test.YtebbcpeldncekaaDoorJoinz
import Derived.Test.YtebbcpeldncekaaDoorPartz
import Derived.Test.YtebbcpeldncekaaDoorTileAz
import Derived.Test.YtebbcpeldncekaaDoorEqsz
import Derived.Test.YtebbcpeldncekaaDoorInfoBz
import Derived.Deep.OwnRows
import Derived.Laws.OwnMore
namespace Go.Proofs.YtebbcpeldncekaaDoor
open Go.RowKit
set_option linter.unusedVariables false
set_option maxRecDepth 100000

def gN : Gd := (notG giv).1
theorem gN_e : notG giv = (gN, 0) := Prod.ext rfl (by decide +kernel)
theorem gN_t : textG gN = ([120, 46, 46, 10, 46, 120, 120, 10], 0) := by decide +kernel
theorem gN_p : parseG [120, 46, 46, 10, 46, 120, 120, 10] = (gN, 0) := pg_of (by decide +kernel)
theorem kgN (A : Option Addr) (n c : Nat) (W : World) (hr : Rd W A n (giv.bits.map Value.bool)) (hc : n ≤ c) : Calls Tryd.prog 27 #[.agg #[.int .i64 giv.w, .int .i64 giv.h, .slice A n c]] W (RetG (gN, 0) W) := by
  have h := not_any giv A n c W hr
  rw [gN_e] at h
  exact h
def gM : Gd := (mirG giv 0).1
theorem gM_e : mirG giv 0 = (gM, 0) := Prod.ext rfl (by decide +kernel)
theorem gM_t : textG gM = ([120, 120, 46, 10, 46, 46, 120, 10], 0) := by decide +kernel
theorem gM_p : parseG [120, 120, 46, 10, 46, 46, 120, 10] = (gM, 0) := pg_of (by decide +kernel)
theorem kgM (A : Option Addr) (n c : Nat) (W : World) (hr : Rd W A n (giv.bits.map Value.bool)) (hc : n ≤ c) : Calls Tryd.prog 24 #[.agg #[.int .i64 giv.w, .int .i64 giv.h, .slice A n c], .int .i64 0] W (RetG (gM, 0) W) := by
  have h := mirror_any giv 0 A n c W hr
  rw [gM_e] at h
  exact h
def gO : Gd := (mirG giv 1).1
theorem gO_e : mirG giv 1 = (gO, 0) := Prod.ext rfl (by decide +kernel)
theorem gO_t : textG gO = ([120, 46, 46, 10, 46, 120, 120, 10], 0) := by decide +kernel
theorem gO_p : parseG [120, 46, 46, 10, 46, 120, 120, 10] = (gO, 0) := pg_of (by decide +kernel)
theorem kgO (A : Option Addr) (n c : Nat) (W : World) (hr : Rd W A n (giv.bits.map Value.bool)) (hc : n ≤ c) : Calls Tryd.prog 24 #[.agg #[.int .i64 giv.w, .int .i64 giv.h, .slice A n c], .int .i64 1] W (RetG (gO, 0) W) := by
  have h := mirror_any giv 1 A n c W hr
  rw [gO_e] at h
  exact h
def gP : Gd := (tileG giv 2 1).1
theorem gP_e : tileG giv 2 1 = (gP, 0) := Prod.ext rfl (by decide +kernel)
theorem gP_t : textG gP = ([46, 120, 120, 46, 120, 120, 10, 120, 46, 46, 120, 46, 46, 10], 0) := by decide +kernel
theorem gP_p : parseG [46, 120, 120, 46, 120, 120, 10, 120, 46, 46, 120, 46, 46, 10] = (gP, 0) := pg_of (by decide +kernel)
theorem kgP (A : Option Addr) (n c : Nat) (W : World) (hr : Rd W A n (giv.bits.map Value.bool)) (hc : n ≤ c) : Calls Tryd.prog 28 #[.agg #[.int .i64 giv.w, .int .i64 giv.h, .slice A n c], .int .i64 2, .int .i64 1] W (RetG (gP, 0) W) := by
  have h := tile_any giv 2 1 A n c W hr
  rw [gP_e] at h
  exact h
def gQ : Gd := (partG giv 1 0 2 2).1
theorem gQ_e : partG giv 1 0 2 2 = (gQ, 0) := Prod.ext rfl (by decide +kernel)
theorem gQ_t : textG gQ = ([120, 120, 10, 46, 46, 10], 0) := by decide +kernel
theorem gQ_p : parseG [120, 120, 10, 46, 46, 10] = (gQ, 0) := pg_of (by decide +kernel)
theorem kgQ (A : Option Addr) (n c : Nat) (W : World) (hr : Rd W A n (giv.bits.map Value.bool)) (hc : n ≤ c) : Calls Tryd.prog 29 #[.agg #[.int .i64 giv.w, .int .i64 giv.h, .slice A n c], .int .i64 1, .int .i64 0, .int .i64 2, .int .i64 2] W (RetG (gQ, 0) W) := by
  have h := part_any giv 1 0 2 2 A n c W hr
  rw [gQ_e] at h
  exact h
def gX : Gd := (shiftG giv (-9223372036854775808) 9223372036854775807).1
theorem gX_e : shiftG giv (-9223372036854775808) 9223372036854775807 = (gX, 0) := Prod.ext rfl (by decide +kernel)
theorem gX_t : textG gX = ([46, 120, 46, 10, 120, 46, 120, 10], 0) := by decide +kernel
theorem gX_p : parseG [46, 120, 46, 10, 120, 46, 120, 10] = (gX, 0) := pg_of (by decide +kernel)
theorem kgX (A : Option Addr) (n c : Nat) (W : World) (hr : Rd W A n (giv.bits.map Value.bool)) (hc : n ≤ c) : Calls Tryd.prog 23 #[.agg #[.int .i64 giv.w, .int .i64 giv.h, .slice A n c], .int .i64 (-9223372036854775808), .int .i64 9223372036854775807] W (RetG (gX, 0) W) := by
  have h := shift_any giv (-9223372036854775808) 9223372036854775807 A n c W hr
  rw [gX_e] at h
  exact h
def gR : Gd := (joinG (fun p q => p && q) giv gM).1
theorem gR_e : joinG (fun p q => p && q) giv gM = (gR, 0) := Prod.ext rfl (by decide +kernel)
theorem gR_t : textG gR = ([46, 120, 46, 10, 46, 46, 46, 10], 0) := by decide +kernel
theorem gR_p : parseG [46, 120, 46, 10, 46, 46, 46, 10] = (gR, 0) := pg_of (by decide +kernel)
theorem kgR (A A' : Option Addr) (n c n' c' : Nat) (W : World) (hr : Rd W A n (giv.bits.map Value.bool)) (hr' : Rd W A' n' (gM.bits.map Value.bool)) : Calls Tryd.prog 25 #[.agg #[.int .i64 giv.w, .int .i64 giv.h, .slice A n c], .agg #[.int .i64 gM.w, .int .i64 gM.h, .slice A' n' c']] W (RetG (gR, 0) W) := by
  have h := and_any giv gM A A' n c n' c' W hr hr'
  rw [gR_e] at h
  exact h
def gS : Gd := (joinG (fun p q => p || q) giv gM).1
theorem gS_e : joinG (fun p q => p || q) giv gM = (gS, 0) := Prod.ext rfl (by decide +kernel)
theorem gS_t : textG gS = ([120, 120, 120, 10, 120, 46, 120, 10], 0) := by decide +kernel
theorem gS_p : parseG [120, 120, 120, 10, 120, 46, 120, 10] = (gS, 0) := pg_of (by decide +kernel)
theorem kgS (A A' : Option Addr) (n c n' c' : Nat) (W : World) (hr : Rd W A n (giv.bits.map Value.bool)) (hr' : Rd W A' n' (gM.bits.map Value.bool)) : Calls Tryd.prog 26 #[.agg #[.int .i64 giv.w, .int .i64 giv.h, .slice A n c], .agg #[.int .i64 gM.w, .int .i64 gM.h, .slice A' n' c']] W (RetG (gS, 0) W) := by
  have h := or_any giv gM A A' n c n' c' W hr hr'
  rw [gS_e] at h
  exact h
theorem rgN (A : Option Addr) (n c : Nat) (W : World) (hr : Rd W A n (gN.bits.map Value.bool)) (hc : n ≤ c) : Calls Tryd.prog 31 #[str [120, 46, 46, 10, 46, 120, 120, 10], .agg #[.int .i64 gN.w, .int .i64 gN.h, .slice A n c], .int .i64 0] W fun e w' => e = .returned (.bool true) ∧ Below W.heap.size W w' := reads_true [120, 46, 46, 10, 46, 120, 120, 10] gN (by decide) gN_t gN_p A n c W hr hc
theorem rgM (A : Option Addr) (n c : Nat) (W : World) (hr : Rd W A n (gM.bits.map Value.bool)) (hc : n ≤ c) : Calls Tryd.prog 31 #[str [120, 120, 46, 10, 46, 46, 120, 10], .agg #[.int .i64 gM.w, .int .i64 gM.h, .slice A n c], .int .i64 0] W fun e w' => e = .returned (.bool true) ∧ Below W.heap.size W w' := reads_true [120, 120, 46, 10, 46, 46, 120, 10] gM (by decide) gM_t gM_p A n c W hr hc
theorem rgO (A : Option Addr) (n c : Nat) (W : World) (hr : Rd W A n (gO.bits.map Value.bool)) (hc : n ≤ c) : Calls Tryd.prog 31 #[str [120, 46, 46, 10, 46, 120, 120, 10], .agg #[.int .i64 gO.w, .int .i64 gO.h, .slice A n c], .int .i64 0] W fun e w' => e = .returned (.bool true) ∧ Below W.heap.size W w' := reads_true [120, 46, 46, 10, 46, 120, 120, 10] gO (by decide) gO_t gO_p A n c W hr hc
theorem rgP (A : Option Addr) (n c : Nat) (W : World) (hr : Rd W A n (gP.bits.map Value.bool)) (hc : n ≤ c) : Calls Tryd.prog 31 #[str [46, 120, 120, 46, 120, 120, 10, 120, 46, 46, 120, 46, 46, 10], .agg #[.int .i64 gP.w, .int .i64 gP.h, .slice A n c], .int .i64 0] W fun e w' => e = .returned (.bool true) ∧ Below W.heap.size W w' := reads_true [46, 120, 120, 46, 120, 120, 10, 120, 46, 46, 120, 46, 46, 10] gP (by decide) gP_t gP_p A n c W hr hc
theorem rgQ (A : Option Addr) (n c : Nat) (W : World) (hr : Rd W A n (gQ.bits.map Value.bool)) (hc : n ≤ c) : Calls Tryd.prog 31 #[str [120, 120, 10, 46, 46, 10], .agg #[.int .i64 gQ.w, .int .i64 gQ.h, .slice A n c], .int .i64 0] W fun e w' => e = .returned (.bool true) ∧ Below W.heap.size W w' := reads_true [120, 120, 10, 46, 46, 10] gQ (by decide) gQ_t gQ_p A n c W hr hc
theorem rgX (A : Option Addr) (n c : Nat) (W : World) (hr : Rd W A n (gX.bits.map Value.bool)) (hc : n ≤ c) : Calls Tryd.prog 31 #[str [46, 120, 46, 10, 120, 46, 120, 10], .agg #[.int .i64 gX.w, .int .i64 gX.h, .slice A n c], .int .i64 0] W fun e w' => e = .returned (.bool true) ∧ Below W.heap.size W w' := reads_true [46, 120, 46, 10, 120, 46, 120, 10] gX (by decide) gX_t gX_p A n c W hr hc
theorem rgR (A : Option Addr) (n c : Nat) (W : World) (hr : Rd W A n (gR.bits.map Value.bool)) (hc : n ≤ c) : Calls Tryd.prog 31 #[str [46, 120, 46, 10, 46, 46, 46, 10], .agg #[.int .i64 gR.w, .int .i64 gR.h, .slice A n c], .int .i64 0] W fun e w' => e = .returned (.bool true) ∧ Below W.heap.size W w' := reads_true [46, 120, 46, 10, 46, 46, 46, 10] gR (by decide) gR_t gR_p A n c W hr hc
theorem rgS (A : Option Addr) (n c : Nat) (W : World) (hr : Rd W A n (gS.bits.map Value.bool)) (hc : n ≤ c) : Calls Tryd.prog 31 #[str [120, 120, 120, 10, 120, 46, 120, 10], .agg #[.int .i64 gS.w, .int .i64 gS.h, .slice A n c], .int .i64 0] W fun e w' => e = .returned (.bool true) ∧ Below W.heap.size W w' := reads_true [120, 120, 120, 10, 120, 46, 120, 10] gS (by decide) gS_t gS_p A n c W hr hc
def gbig : Gd := ⟨64, 64, List.replicate 4096 false⟩
def gor : Gd := ⟨65, 1, List.replicate 65 false⟩
theorem ka1_e : tileG gbig 1 2 = (Gd.zero, 4) := Prod.ext (by rfl) (by decide +kernel)
theorem ka1 (A : Option Addr) (n c : Nat) (W : World) (hr : Rd W A n (gbig.bits.map Value.bool)) (hc : n ≤ c) : Calls Tryd.prog 28 #[.agg #[.int .i64 gbig.w, .int .i64 gbig.h, .slice A n c], .int .i64 1, .int .i64 2] W (ErrG 4 W) := by
  have h := tile_any gbig 1 2 A n c W hr
  rw [ka1_e] at h
  exact h.mono fun _ _ h => errG_of h
theorem ka2_e : tileG giv 0 1 = (Gd.zero, 2) := Prod.ext (by rfl) (by decide +kernel)
theorem ka2 (A : Option Addr) (n c : Nat) (W : World) (hr : Rd W A n (giv.bits.map Value.bool)) (hc : n ≤ c) : Calls Tryd.prog 28 #[.agg #[.int .i64 giv.w, .int .i64 giv.h, .slice A n c], .int .i64 0, .int .i64 1] W (ErrG 2 W) := by
  have h := tile_any giv 0 1 A n c W hr
  rw [ka2_e] at h
  exact h.mono fun _ _ h => errG_of h
theorem ka3_e : mirG giv 2 = (Gd.zero, 2) := Prod.ext (by rfl) (by decide +kernel)
theorem ka3 (A : Option Addr) (n c : Nat) (W : World) (hr : Rd W A n (giv.bits.map Value.bool)) (hc : n ≤ c) : Calls Tryd.prog 24 #[.agg #[.int .i64 giv.w, .int .i64 giv.h, .slice A n c], .int .i64 2] W (ErrG 2 W) := by
  have h := mirror_any giv 2 A n c W hr
  rw [ka3_e] at h
  exact h.mono fun _ _ h => errG_of h
theorem ka4_e : partG giv 1 0 3 1 = (Gd.zero, 2) := Prod.ext (by rfl) (by decide +kernel)
theorem ka4 (A : Option Addr) (n c : Nat) (W : World) (hr : Rd W A n (giv.bits.map Value.bool)) (hc : n ≤ c) : Calls Tryd.prog 29 #[.agg #[.int .i64 giv.w, .int .i64 giv.h, .slice A n c], .int .i64 1, .int .i64 0, .int .i64 3, .int .i64 1] W (ErrG 2 W) := by
  have h := part_any giv 1 0 3 1 A n c W hr
  rw [ka4_e] at h
  exact h.mono fun _ _ h => errG_of h
theorem ka5_e : partG giv 0 0 0 1 = (Gd.zero, 2) := Prod.ext (by rfl) (by decide +kernel)
theorem ka5 (A : Option Addr) (n c : Nat) (W : World) (hr : Rd W A n (giv.bits.map Value.bool)) (hc : n ≤ c) : Calls Tryd.prog 29 #[.agg #[.int .i64 giv.w, .int .i64 giv.h, .slice A n c], .int .i64 0, .int .i64 0, .int .i64 0, .int .i64 1] W (ErrG 2 W) := by
  have h := part_any giv 0 0 0 1 A n c W hr
  rw [ka5_e] at h
  exact h.mono fun _ _ h => errG_of h
theorem ka8_e : tileG giv 9223372036854775807 9223372036854775807 = (Gd.zero, 4) := Prod.ext (by rfl) (by decide +kernel)
theorem ka8 (A : Option Addr) (n c : Nat) (W : World) (hr : Rd W A n (giv.bits.map Value.bool)) (hc : n ≤ c) : Calls Tryd.prog 28 #[.agg #[.int .i64 giv.w, .int .i64 giv.h, .slice A n c], .int .i64 9223372036854775807, .int .i64 9223372036854775807] W (ErrG 4 W) := by
  have h := tile_any giv 9223372036854775807 9223372036854775807 A n c W hr
  rw [ka8_e] at h
  exact h.mono fun _ _ h => errG_of h
theorem ka6_e : joinG (fun p q => p && q) giv gQ = (Gd.zero, 2) := Prod.ext (by rfl) (by decide +kernel)
theorem ka6 (A A' : Option Addr) (n c n' c' : Nat) (W : World) (hr : Rd W A n (giv.bits.map Value.bool)) (hr' : Rd W A' n' (gQ.bits.map Value.bool)) : Calls Tryd.prog 25 #[.agg #[.int .i64 giv.w, .int .i64 giv.h, .slice A n c], .agg #[.int .i64 gQ.w, .int .i64 gQ.h, .slice A' n' c']] W (ErrG 2 W) := by
  have h := and_any giv gQ A A' n c n' c' W hr hr'
  rw [ka6_e] at h
  exact h.mono fun _ _ h => errG_of h
theorem ka7_e : joinG (fun p q => p || q) giv gor = (Gd.zero, 4) := Prod.ext (by rfl) (by decide +kernel)
theorem ka7 (A A' : Option Addr) (n c n' c' : Nat) (W : World) (hr : Rd W A n (giv.bits.map Value.bool)) (hr' : Rd W A' n' (gor.bits.map Value.bool)) : Calls Tryd.prog 26 #[.agg #[.int .i64 giv.w, .int .i64 giv.h, .slice A n c], .agg #[.int .i64 gor.w, .int .i64 gor.h, .slice A' n' c']] W (ErrG 4 W) := by
  have h := or_any giv gor A A' n c n' c' W hr hr'
  rw [ka7_e] at h
  exact h.mono fun _ _ h => errG_of h
theorem pf0 : parseG [] = (Gd.zero, 12) := pg_of (by decide +kernel)
theorem kf0 (W : World) : Calls Tryd.prog 32 #[str []] W fun e w' => e = .returned (.bool true) ∧ Below W.heap.size W w' := refused_true [] (by decide) pf0 W
theorem pf1 : parseG [10] = (Gd.zero, 12) := pg_of (by decide +kernel)
theorem kf1 (W : World) : Calls Tryd.prog 32 #[str [10]] W fun e w' => e = .returned (.bool true) ∧ Below W.heap.size W w' := refused_true [10] (by decide) pf1 W
theorem pf2 : parseG [120, 10, 10] = (Gd.zero, 12) := pg_of (by decide +kernel)
theorem kf2 (W : World) : Calls Tryd.prog 32 #[str [120, 10, 10]] W fun e w' => e = .returned (.bool true) ∧ Below W.heap.size W w' := refused_true [120, 10, 10] (by decide) pf2 W
theorem pf3 : parseG [88, 10] = (Gd.zero, 12) := pg_of (by decide +kernel)
theorem kf3 (W : World) : Calls Tryd.prog 32 #[str [88, 10]] W fun e w' => e = .returned (.bool true) ∧ Below W.heap.size W w' := refused_true [88, 10] (by decide) pf3 W
theorem pf4 : parseG [120, 46] = (Gd.zero, 12) := pg_of (by decide +kernel)
theorem kf4 (W : World) : Calls Tryd.prog 32 #[str [120, 46]] W fun e w' => e = .returned (.bool true) ∧ Below W.heap.size W w' := refused_true [120, 46] (by decide) pf4 W
theorem check_to (W H k : Int) {n : Nat} (h : chk W H n = k) (A : Option Addr) (c : Nat) (w : World) : Calls Tryd.prog 16 #[.agg #[.int .i64 W, .int .i64 H, .slice A n c]] w fun e w' => e = .returned (.int .i64 k) ∧ Below w.heap.size w w' := h ▸ check_any W H A n c w
theorem mk_bools (n : Nat) : (madeCells #[Value.bool false] n).toList = (List.replicate n false).map Value.bool := by
  rw [toList_madeCells_one]; simp
theorem rd_mk (n : Nat) (W : World) : Rd (W.alloc (.cells (madeCells #[Value.bool false] n) 4)) (some ⟨W.heap.size, 0, none⟩) n ((List.replicate n false).map Value.bool) := by
  have h := rd_of_blk (Blk.new W 4 (madeCells #[Value.bool false] n))
  rw [size_madeCells, mk_bools] at h
  exact h
theorem make_b (n : Nat) (hn : n ≤ 1048576) (W : World) : (Instr.makeSlice 22 (.int .i64 (n : Int)) (.int .i64 (n : Int))).run Tryd.prog W = .ok (.slice (some ⟨W.heap.size, 0, none⟩) n n) (W.alloc (.cells (madeCells #[Value.bool false] n) 4)) := run_make_row' (P := Tryd.prog) 22 4 (.bool false) 1 Tryd.underlying22 Tryd.infoB rfl .i64 .i64 n (by omega) (by omega) W
theorem gsame_empty (B : Option Addr) (c : Nat) (w : World) : Calls Tryd.prog 18 #[.agg #[.int .i64 0, .int .i64 0, .slice none 0 0], .agg #[.int .i64 0, .int .i64 0, .slice B 0 c]] w fun e w' => e = .returned (.bool true) ∧ Below w.heap.size w w' := by
  have HE := Lib.hid (fun W => eqs_any [] [] none B 0 0 0 c W Rd.nil_ Rd.nil_ (by omega))
  have S0 := ((St.start w).box #[.int .i64 0, .int .i64 0, .slice none 0 0] 24).box #[.int .i64 0, .int .i64 0, .slice B 0 c] 24
  simp only [size_alloc1, List.nil_append, List.cons_append] at S0
  obtain ⟨c0, c1, c2⟩ := (S0.blk 0 rfl).cell3
  obtain ⟨d0, d1, d2⟩ := (S0.blk 1 rfl).cell3
  go_enter Tryd.func18, Tryd.ntmps18
  go_wp2_with fail
  refine (HE.out _).mono ?_
  rintro e w1 ⟨rfl, m, rfl⟩
  go_wp2_with fail
  go_ret
  exact ⟨by trivial, below_drewN S0.below _⟩
end Go.Proofs.YtebbcpeldncekaaDoor
