/- Parts of the proof, in their order. -/
import Derived.Test.YtliibficmdomjaaDoorMg1z
import Derived.Handed
import Derived.Lay
import Derived.LaidMore
import Derived.ProofKit
import Derived.OpenShut
import Derived.Test.YtliibficmdomjaaDoorMg12z
import Derived.Test.YtliibficmdomjaaDoorMg7z
import Derived.Test.YtliibficmdomjaaDoorSplPz
import Derived.Test.YtliibficmdomjaaDoorRSamez
import Derived.Test.YtliibficmdomjaaDoorMg4z
import Derived.Test.YtliibficmdomjaaDoorMg8z
import Derived.Test.YtliibficmdomjaaDoorOffsetz
import Derived.Test.YtliibficmdomjaaDoorMg6z
import Derived.BigRegion
/- From the walk of a law to its row, where the row lists variables of the library: the law answers true and turns nothing that was there. Nothing here names a function of the program. -/
namespace Go.Proofs.YtliibficmdomjaaDoor
open Go.RowKit Go.ChangeShapes Go.WideShapes Go.ChangeAt

section
variable {H : Type} {enc : TypeId × Value → H}
theorem law_laid {C : Checked} {os : Os} {f : FuncId} {fn : Func} {s : ChangeSpec} {tb : TypeId} {conds : List PathCond} {X : World → Array Value → Prop}
    (hX : ∀ (w w' : World) (args : Array Value), w.heap = w'.heap → X w args → X w' args)
    (own : ownKnob C.prog.godebug = none) (started : os.Started) (noInit : C.prog.inits.idxOf? f = none) (hfn : C.prog.funcs[f]? = some fn)
    (witness : ∃ (w : World) (tape : Tape) (i : Input), w.os = os ∧ (w.forCall tape i).Shaped C.prog ∧ i.vars = [] ∧ Input.okWide C.prog (w.forCall tape i) .any w.heap.size f i ∧
      ((s.pre enc C.prog fn conds false (w.forCall tape i).memory i.args ∧ X (w.forCall tape i).memory i.args) ∧ sizedMet enc C.prog fn (OpenSpec.ofChange s) false (w.forCall tape i).memory i.args) ∧ Assume.holds {} C.prog (lone (Frame.enter C.prog f i.args .normal) [] (w.forCall tape i)))
    (hv : s.vars = []) (hspec : ∀ ds : List (DataW H), ds.length = fn.params.size → s.fn H (ds ++ []) = { results := [.lit (.bool true)], args := ds })
    (hres : fn.resultTypes = #[tb]) (hb : C.prog.underlying tb = some .bool) (laid : laidOutB C.prog = true) (hread : ∀ t ∈ fn.params.toList, C.prog.readableRec t = true ∧ t < C.prog.types.size)
    (walk : LawWalk C.prog f fn.params.toList enc) :
    ReturnsInHanded {} C os f .any (fun w args => (s.pre enc C.prog fn conds false w args ∧ X w args) ∧ sizedMet enc C.prog fn (OpenSpec.ofChange s) false w args) (s.post enc C.prog fn false true false false) := by
  refine returnsInHanded_of_change_and (C := C) (X := X) hX own started noInit hfn witness ?_
  intro W base args ds gs before hval hW _ _ _ _
  have hW' := hW
  obtain ⟨p, q, hA, hV, rfl, _, _⟩ := hW
  rw [hv] at hV
  obtain ⟨rfl, rfl⟩ := trodVars_none hV
  have hlen : ds.length = fn.params.size := by
    have h1 := trodAll_len hA
    simpa using h1
  have hlt : ∀ x ∈ p, x.block < W.heap.size := fun x hx => by simpa using hW'.lt x (List.mem_append.2 (Or.inl hx))
  refine (walk W base args ds p (fun j t v h1 h2 => hval j t v (by simpa using h1) (by simpa using h2)) hA).mono fun e W' ⟨he, bel⟩ => ?_
  subst he
  have hs := hspec ds hlen
  refine ⟨_, rfl, ds, [], _, [], p, [], hW', ?_, ?_, ?_, bel.frame _, fun h => by cases h⟩
  · rw [hs, hres]
    exact trodAll_mk1 (shut_bool hb _)
  · rw [hs]
    exact trodAll_below laid bel hread hlt hA
  · rw [hs, hv]
    rfl
end
end Go.Proofs.YtliibficmdomjaaDoor
/- The examples of layer 7. No program in sight. -/
namespace Go.Proofs.YtliibficmdomjaaDoor
open Go.RowKit

def ckT : List UInt8 := [46, 120, 10, 120, 46, 10]
def twT : List UInt8 := [120, 46, 46, 120, 10, 46, 46, 120, 120, 10, 46, 120, 120, 46, 10, 120, 120, 46, 46, 10]
def fuT : List UInt8 := [120, 120, 10, 120, 120, 10]
def doT : List UInt8 := [46, 10]
def ckG : Gd := (parseG ckT).1
def twG : Gd := (parseG twT).1
def fuG : Gd := (parseG fuT).1
def doG : Gd := (parseG doT).1
theorem ck_p : parseG ckT = (ckG, 0) := Prod.ext rfl (by decide +kernel)
theorem tw_p : parseG twT = (twG, 0) := Prod.ext rfl (by decide +kernel)
theorem fu_p : parseG fuT = (fuG, 0) := Prod.ext rfl (by decide +kernel)
theorem do_p : parseG doT = (doG, 0) := Prod.ext rfl (by decide +kernel)
theorem ck_s : startG ckG = 0 := by decide +kernel
theorem tw_s : startG twG = 0 := by decide +kernel
theorem fu_s : startG fuG = 0 := by decide +kernel
theorem ck_l : alkL ckG ckG = [0, 1, 2, 3, 4, 5, 6, 7, 8, 9, 10, 11, 12, 13, 14, 15] := by decide +kernel
theorem tw_l : alkL twG twG = [0, 3, 4, 7, 8, 11, 12, 15] := by decide +kernel
theorem fu_l : leastG fuG = ((doG, 8), 0) := by
  have e : (sameG (leastG fuG).1.1 doG && decide ((leastG fuG).1.2 = 8 ∧ (leastG fuG).2 = 0)) = true := by decide +kernel
  rw [Bool.and_eq_true, sameG_iff] at e
  have e2 := of_decide_eq_true e.2
  exact Prod.ext (Prod.ext e.1 e2.1) e2.2
end Go.Proofs.YtliibficmdomjaaDoor
/- symmetry.alike. -/
namespace Go.Proofs.YtliibficmdomjaaDoor
open Go.RowKit

set_option maxHeartbeats 4000000 in
set_option maxRecDepth 100000 in
theorem alike_any (a b : Nat) (bs : List Bool) (g' : Gd) (A A' : Option Addr) (c n' c' : Nat) (w : World) (ha1 : 1 ≤ a) (hb1 : 1 ≤ b) (ha : a ≤ 64) (hb : b ≤ 64) (hr : Rd w A (b * a) (bs.map Value.bool)) (hr' : Rd w A' n' (g'.bits.map Value.bool)) (hc' : n' ≤ c') :
    Calls Tryd.prog 34 #[.agg #[.int .i64 a, .int .i64 b, .slice A (b * a) c], .agg #[.int .i64 g'.w, .int .i64 g'.h, .slice A' n' c']] w (AlRet a b bs g' w) := by
  obtain ⟨i0, hi, hz0, hz1, hz2⟩ := info_parts Tryd.infoI
  obtain ⟨bl, o, rfl, hbl, hcs⟩ := hr.at_ (Nat.mul_pos hb1 ha1)
  have S0 := ((((St.start w).addRd hr).addRd hr').box #[.int .i64 a, .int .i64 b, .slice (some ⟨bl, o, none⟩) (b * a) c] 24).box #[.int .i64 g'.w, .int .i64 g'.h, .slice A' n' c'] 24
  simp only [size_alloc1, List.nil_append, List.cons_append] at S0
  have HA := Lib.hid (fun k W hk h => applied_any a b k bl o c bs W ha1 hb1 ha hb hk h)
  clear hcs hr hr' hbl ha1 hb1 ha hb
  generalize b * a = n at *
  obtain ⟨w2, hw2⟩ : ∃ q, q = (w.alloc (.cells #[.int .i64 a, .int .i64 b, .slice (some ⟨bl, o, none⟩) n c] 24)).alloc (.cells #[.int .i64 g'.w, .int .i64 g'.h, .slice A' n' c'] 24) := ⟨_, rfl⟩
  have hs2 : w2.heap.size = w.heap.size + 1 + 1 := by rw [hw2]; simp
  rw [← hw2] at S0
  have HS2 := Lib.hid hs2
  clear hs2
  go_enter Tryd.func34, Tryd.ntmps34
  go_wp2_with fail
  rw [← hw2]
  clear hw2
  go_loopw [9, 5] (fun i s wr => ∃ (k : Nat) (l : List Int) (A1 : Option Addr) (n1 c1 : Nat), k ≤ 16 ∧ i = .int .i64 k ∧ s = .slice A1 n1 c1 ∧ AlikeK a b bs g' k l ∧ wr.ownsRow w2.heap.size 3 1 (.slice A1 n1 c1) n1 (l.map (Value.int .i64)) ∧ Below w2.heap.size w2 wr) (fun i _ _ => 16 - (intOf i).toNat)
  case atStart => exact ⟨0, [], none, 0, 0, Nat.zero_le _, rfl, rfl, rfl, World.ownsRow_nil _ _ _ _, Below.refl _ _⟩
  case round =>
    obtain ⟨k, l, A1, n1, c1, hk, rfl, rfl, hal, hown, hbel⟩ := hrel
    by_cases hlt : k < 16
    · have S := S0.keep hbel
      have HAk := Lib.hid (fun W h => HA.out k W hlt h)
      have HL := Lib.hid hal
      have hn1 : n1 ≤ 16 := by have h1 := hown.1; have h2 := hal.le; simp at h1; omega
      clear S0 HA hal
      generalize hgk : appG a b bs k = gk at HAk
      have HG := Lib.hid hgk
      clear hgk
      have HB := (Below.refl wr.heap.size wr).drew
      have HBa := ((Below.refl wr.heap.size wr).alloc (Nat.le_refl _) (.cells #[.int .i64 0, .int .i64 0] 43)).drew
      have hpa := (Blk.new wr 43 #[.int .i64 0, .int .i64 0]).drew
      go_wp2_with fail
      go_region_held3 (fun w' => (w'.cell? ⟨w.heap.size, 0, none⟩ = some (.int .i64 a) ∧ w'.cell? ⟨w.heap.size, 1, none⟩ = some (.int .i64 b) ∧ w'.cell? ⟨w.heap.size, 2, none⟩ = some (.slice (some ⟨bl, o, none⟩) n c)) ∧ (w'.cell? ⟨w.heap.size + 1, 0, none⟩ = some (.int .i64 g'.w) ∧ w'.cell? ⟨w.heap.size + 1, 1, none⟩ = some (.int .i64 g'.h) ∧ w'.cell? ⟨w.heap.size + 1, 2, none⟩ = some (.slice A' n' c')))
        (first | exact ⟨((S.keep HB).blk 2 rfl).cell3, ((S.keep HB).blk 3 rfl).cell3⟩ | exact ⟨((S.keep HBa).blk 2 rfl).cell3, ((S.keep HBa).blk 3 rfl).cell3⟩ | exact ⟨((S.keep (HB.alloc HB.size _)).blk 2 rfl).cell3, ((S.keep (HB.alloc HB.size _)).blk 3 rfl).cell3⟩ | (rw [← hwe]; exact ⟨((S.keep HE).blk 2 rfl).cell3, ((S.keep HE).blk 3 rfl).cell3⟩) | go_keep)
        (first
          | (go_at_call 33; ((with_reducible refine (HAk.out _ ((S.keep HB).rd 0 rfl)).mono ?_); rintro ez wz ⟨A5, n5, c5, rfl, hown5, hb5⟩; replace HB := below_then HB hb5; have hr5 := rd_of_own hown5; have hc5 := own_le hown5))
          | (go_at_call 33; ((with_reducible refine (HAk.out _ ((S.keep HBa).rd 0 rfl)).mono ?_); rintro ez wz ⟨A5, n5, c5, rfl, hown5, hb5⟩; replace HB := below_then HBa hb5; have hp := hpa.keep hb5; have hr5 := rd_of_own hown5; have hc5 := own_le hown5))
          | (go_at_call 18; ((with_reducible refine (offset_any gk g' A5 A' n5 c5 n' c' _ hr5 ((S.keep HB).rd 1 rfl) hc5 hc').mono ?_); rintro ez wy ⟨⟨⟨px, py⟩, pe⟩, hR, rfl, hb7⟩; replace HB := below_then HB hb7; (first | (replace hp := hp.keep hb7; obtain ⟨pc0, pc1⟩ := hp.cellP; obtain ⟨pf0, pf1⟩ := hp.frozenP; obtain ⟨we, hwe⟩ : ∃ q, q = (wy.setCell ⟨wr.heap.size, 0, none⟩ (.int .i64 px)).setCell ⟨wr.heap.size, 1, none⟩ (.int .i64 py) := ⟨_, rfl⟩; have HE : Below wr.heap.size wr we := by (rw [hwe]; exact below_setP HB (Nat.le_refl wr.heap.size) _ _)) | (obtain ⟨we, hwe⟩ : ∃ q, q = wy.alloc (.cells #[.int .i64 px, .int .i64 py] 43) := ⟨_, rfl⟩; have HE : Below wr.heap.size wr we := by (rw [hwe]; exact HB.alloc HB.size _)))))
          | (go_at_call 18; ((with_reducible refine (offset_any gk g' A5 A' n5 c5 n' c' _ (hr5.alloc _) ((S.keep (HB.alloc HB.size _)).rd 1 rfl) hc5 hc').mono ?_); rintro ez wy ⟨⟨⟨px, py⟩, pe⟩, hR, rfl, hb7⟩; have hle := HB.size; replace HB := below_then (HB.alloc HB.size _) hb7; have hp := (Blk.new wz 43 #[.int .i64 0, .int .i64 0]).keep hb7; obtain ⟨pc0, pc1⟩ := hp.cellP; obtain ⟨pf0, pf1⟩ := hp.frozenP; obtain ⟨we, hwe⟩ : ∃ q, q = (wy.setCell ⟨wz.heap.size, 0, none⟩ (.int .i64 px)).setCell ⟨wz.heap.size, 1, none⟩ (.int .i64 py) := ⟨_, rfl⟩; have HE : Below wr.heap.size wr we := by (rw [hwe]; exact below_setP HB hle _ _)))
          | fail)
      all_goals
        rw [← hwe]
        first
          | (have hP := hp.setP (.int .i64 px) (.int .i64 py); rw [← hwe] at hP)
          | (have hP := Blk.new wy 43 #[.int .i64 px, .int .i64 py]; rw [← hwe] at hP)
        clear hwe HB HBa hpa hr5 hc5 hown5 hb5 hb7
        try clear hp pc0 pc1 pf0 pf1
        have HR : Hid (OffR (appG a b bs k) g' ((px, py), pe)) := Lib.hid (by rw [HG.out]; exact hR)
        clear hR hP
        by_cases he : pe = 0
        · have HL2 := Lib.hid (AlikeK.yes HL.out (he ▸ HR.out))
          have hown2 := own_below hown HE
          have hbel2 := hbel.trans (HE.mono hbel.size)
          have hsz := size_alloc_le hbel2.size (.cells #[.int .i64 k] 3)
          clear hown HE
          go_wp2_with (at_builtin; go_loud (refine wpList_app _ rfl (.tmp 22) (.tmp 24) 36 rfl w2.heap.size 3 i0 (.int .i64 0) 8 Tryd.underlying36 hi hz0 hz1 hz2 rfl (by decide) (.slice A1 n1 c1) n1 _ rfl (hown2.alloc _) we.heap.size (.int .i64 k) rfl ?c1 rfl (by omega) hsz ?_))
          case c1 => exact new_cell we _ _
          intro g1 cp1 w3 hown3 hgr3
          have hbel3 := (hbel2.alloc hbel2.size _).grown hgr3 (size_alloc_le hbel2.size _) (fun k hk => (hown2.lt k hk).1)
          clear hown2 hgr3
          go_wp2_with fail
          go_roundw
          case rel => exact ⟨k + 1, l ++ [(k : Int)], some ⟨g1, 0, none⟩, n1 + 1, cp1, by omega, by go_num, rfl, HL2.out, by simpa using hown3, hbel3⟩
          case measure => simp [intOf]; omega
        · have HL2 := Lib.hid (AlikeK.no HL.out HR.out he)
          have hown2 := own_below hown HE
          have hbel2 := hbel.trans (HE.mono hbel.size)
          clear hown HE
          go_wp2_with fail
          go_roundw
          case rel => exact ⟨k + 1, l, A1, n1, c1, by omega, by go_num, rfl, HL2.out, hown2, hbel2⟩
          case measure => simp [intOf]; omega
    · obtain rfl : k = 16 := by omega
      have hB := S0.below.trans (hbel.mono S0.size)
      go_wp2_with fail
      go_ret
      exact ⟨l, A1, n1, c1, hal, rfl, own_base hown S0.size, hB⟩
end Go.Proofs.YtliibficmdomjaaDoor
