/- loomlog.run: the picks of a log. -/
import Derived.Test.YtfjdlbilnoojkaaLoomz
import Derived.Test.YtfjdlbilnoojkaaRunPz
import Derived.Test.YtfjdlbilnoojkaaLChk20z
import Derived.Test.YtfjdlbilnoojkaaInvRz
import Derived.Deep.Draws
namespace Go.Proofs.Ytfjdlbilnoojkaa
open Go.RowKit

theorem enter_of {P : Program} {f : FuncId} {fn : Func} {c : Code} (hf : P.funcs[f]? = some fn) (hname : (fn.name == "runtime.NumGoroutine") = false) (hb : fn.body = some c) (args : Array Value) (u : World) : (callFunc f args).run P u = .ok (.enter f args) u := by
  have h1 : fn.name ≠ "runtime.NumGoroutine" := by simpa using hname
  simp [callFunc, hf, h1, hb]
/-- A handler of an event, and what it does. -/
theorem event_any (N : Int) (w0 w : World) (lb : Nat) (ls : List (List Bool)) (q : Int) (r : List Bool) (A' : Option Addr) (c' : Nat) (hok : evOk N (q, r)) (hls : ls.length ≤ 64) (h : Loom w0 lb ls w) (hr : RowAt w w0.heap.size 4 A' r) :
    ∃ F : FuncId, (∀ args u, (callFunc F args).run Try.prog u = .ok (.enter F args) u) ∧ (∀ u, Calls Try.prog 48 #[.int .u8 q] u fun e w' => e = .returned (.func (.func F) #[] #[]) ∧ w' = u) ∧
      Calls Try.prog F #[.pointer (some ⟨lb, 0, none⟩), .slice A' r.length c'] w fun e w' => e = .returned (.int .i64 (stepL ls (q, r)).1) ∧ ((stepL ls (q, r)).1 = 0 → Loom w0 lb (stepL ls (q, r)).2 w') ∧ Below w0.heap.size w0 w' := by
  rcases (show q = 1 ∨ q = 2 ∨ q = 3 by rcases hok with ⟨h, _⟩ | ⟨h | h, _⟩ <;> simp_all) with rfl | rfl | rfl
  · refine ⟨_, enter_of Try.func59 (by kernel_rfl) rfl, handler_1, ?_⟩
    by_cases h64 : ls.length = 64
    · have hs : stepL ls (1, r) = (4, []) := by unfold stepL; rw [if_pos rfl, if_pos h64]
      rw [hs]
      refine (pick_full w0 lb ls _ w h64 h).mono ?_
      rintro e w' ⟨rfl, rfl⟩
      exact ⟨rfl, fun h' => absurd h' (by simp), h.below⟩
    · have hs : stepL ls (1, r) = (0, ls ++ [r]) := by unfold stepL; rw [if_pos rfl, if_neg h64]
      rw [hs]
      refine (pick_any w0 lb _ ls A' c' r w rfl (by omega) h hr).mono ?_
      rintro e w' ⟨rfl, hL⟩
      exact ⟨rfl, fun _ => hL, hL.below⟩
  · refine ⟨_, enter_of Try.func60 (by kernel_rfl) rfl, handler_2, ?_⟩
    rcases hn : ls.length with _ | n
    · obtain rfl := List.eq_nil_of_length_eq_zero hn
      refine (back_none w0 lb _ w h).mono ?_
      rintro e w' ⟨rfl, rfl⟩
      exact ⟨rfl, fun h' => absurd h' (show ¬ ((36 : Int) = 0) by decide), h.below⟩
    · have hs : stepL ls (2, r) = (0, ls.dropLast) := by unfold stepL; rw [if_neg (by simp), if_pos rfl, if_neg (by intro e; rw [e] at hn; cases hn)]
      rw [hs]
      refine (back_any w0 lb n ls _ w hn (by omega) h).mono ?_
      rintro e w' ⟨rfl, hL⟩
      exact ⟨rfl, fun _ => hL, hL.below⟩
  · refine ⟨_, enter_of Try.func61 (by kernel_rfl) rfl, handler_3, ?_⟩
    have hs : stepL ls (3, r) = (0, ls) := by unfold stepL; rw [if_neg (by simp), if_neg (by simp)]
    rw [hs]
    refine (mark_any _ _ w).mono ?_
    rintro e w' ⟨rfl, rfl⟩
    exact ⟨rfl, fun _ => h, h.below⟩
/-- What run returns: a loom, or an error. -/
def RunRet (N : Int) (l : List Ev) (w : World) (e : Ending) (w' : World) : Prop :=
  (∃ lb, e = .returned (.tuple #[.pointer (some ⟨lb, 0, none⟩), .int .i64 0]) ∧ (runE N l).1 = 0 ∧ Loom w lb (runE N l).2 w') ∨
  ∃ t, e = .returned (.tuple #[.pointer none, .int .i64 t]) ∧ t = (runE N l).1 ∧ (runE N l).1 ≠ 0 ∧ Below w.heap.size w w'
set_option linter.unusedVariables false in
def RG (w Wd : World) (lb b of n c k : Nat) (q code : Int) (A' : Option Addr) (rl c' : Nat) (F : FuncId) (ls' : List (List Bool)) : List Bool → List Value → World → Prop
  | [l0, l1, l2, l3, l4, l5, l6, l7, l8, l9, l10, l11, l12, l13], [x0, x1, x2, x3, x4, x5, x6, x7, x8, x9, x10, x11, x12, x13], u => ((l12 = false → u = Wd) ∧ (l12 = true → (code = 0 → Loom w lb ls' u) ∧ Below w.heap.size w u)) ∧ (l0 = true → x0 = .slice (some ⟨b, of, none⟩) n c) ∧ (l1 = true → x1 = .int .i64 (k : Int)) ∧ (l2 = true → x2 = .pointer (some ⟨b, of + k * 2, none⟩)) ∧ (l3 = true → x3 = .pointer (some ⟨b, of + k * 2, none⟩)) ∧ (l4 = true → x4 = .int .u8 q) ∧ (l5 = true → x5 = .func (.func F) #[] #[] ∧ l4 = true) ∧ (l6 = true → x6 = .pointer (some ⟨lb, 0, none⟩)) ∧ (l7 = true → x7 = .slice (some ⟨b, of, none⟩) n c) ∧ (l8 = true → x8 = .int .i64 (k : Int)) ∧ (l9 = true → x9 = .pointer (some ⟨b, of + k * 2, none⟩)) ∧ (l10 = true → x10 = .pointer (some ⟨b, of + k * 2 + 1, none⟩)) ∧ (l11 = true → x11 = .slice A' rl c') ∧ (l12 = true → x12 = .int .i64 code ∧ l4 = true ∧ l5 = true ∧ l11 = true) ∧ (l13 = true → x13 = .int .i64 code)
  | _, _, _ => False
theorem RG_get (w Wd : World) (lb b of n c k : Nat) (q code : Int) (A' : Option Addr) (rl c' : Nat) (F : FuncId) (ls' : List (List Bool)) {l0 l1 l2 l3 l4 l5 l6 l7 l8 l9 l10 l11 l12 l13 : Bool} {x0 x1 x2 x3 x4 x5 x6 x7 x8 x9 x10 x11 x12 x13 : Value} {u : World} (hyp : RG w Wd lb b of n c k q code A' rl c' F ls' [l0, l1, l2, l3, l4, l5, l6, l7, l8, l9, l10, l11, l12, l13] [x0, x1, x2, x3, x4, x5, x6, x7, x8, x9, x10, x11, x12, x13] u) : ((l12 = false → u = Wd) ∧ (l12 = true → (code = 0 → Loom w lb ls' u) ∧ Below w.heap.size w u)) ∧ (l0 = true → x0 = .slice (some ⟨b, of, none⟩) n c) ∧ (l1 = true → x1 = .int .i64 (k : Int)) ∧ (l2 = true → x2 = .pointer (some ⟨b, of + k * 2, none⟩)) ∧ (l3 = true → x3 = .pointer (some ⟨b, of + k * 2, none⟩)) ∧ (l4 = true → x4 = .int .u8 q) ∧ (l5 = true → x5 = .func (.func F) #[] #[] ∧ l4 = true) ∧ (l6 = true → x6 = .pointer (some ⟨lb, 0, none⟩)) ∧ (l7 = true → x7 = .slice (some ⟨b, of, none⟩) n c) ∧ (l8 = true → x8 = .int .i64 (k : Int)) ∧ (l9 = true → x9 = .pointer (some ⟨b, of + k * 2, none⟩)) ∧ (l10 = true → x10 = .pointer (some ⟨b, of + k * 2 + 1, none⟩)) ∧ (l11 = true → x11 = .slice A' rl c') ∧ (l12 = true → x12 = .int .i64 code ∧ l4 = true ∧ l5 = true ∧ l11 = true) ∧ (l13 = true → x13 = .int .i64 code) := hyp
theorem RG_mk (w Wd : World) (lb b of n c k : Nat) (q code : Int) (A' : Option Addr) (rl c' : Nat) (F : FuncId) (ls' : List (List Bool)) {l0 l1 l2 l3 l4 l5 l6 l7 l8 l9 l10 l11 l12 l13 : Bool} {x0 x1 x2 x3 x4 x5 x6 x7 x8 x9 x10 x11 x12 x13 : Value} {u : World} (hyp : ((l12 = false → u = Wd) ∧ (l12 = true → (code = 0 → Loom w lb ls' u) ∧ Below w.heap.size w u)) ∧ (l0 = true → x0 = .slice (some ⟨b, of, none⟩) n c) ∧ (l1 = true → x1 = .int .i64 (k : Int)) ∧ (l2 = true → x2 = .pointer (some ⟨b, of + k * 2, none⟩)) ∧ (l3 = true → x3 = .pointer (some ⟨b, of + k * 2, none⟩)) ∧ (l4 = true → x4 = .int .u8 q) ∧ (l5 = true → x5 = .func (.func F) #[] #[] ∧ l4 = true) ∧ (l6 = true → x6 = .pointer (some ⟨lb, 0, none⟩)) ∧ (l7 = true → x7 = .slice (some ⟨b, of, none⟩) n c) ∧ (l8 = true → x8 = .int .i64 (k : Int)) ∧ (l9 = true → x9 = .pointer (some ⟨b, of + k * 2, none⟩)) ∧ (l10 = true → x10 = .pointer (some ⟨b, of + k * 2 + 1, none⟩)) ∧ (l11 = true → x11 = .slice A' rl c') ∧ (l12 = true → x12 = .int .i64 code ∧ l4 = true ∧ l5 = true ∧ l11 = true) ∧ (l13 = true → x13 = .int .i64 code)) : RG w Wd lb b of n c k q code A' rl c' F ls' [l0, l1, l2, l3, l4, l5, l6, l7, l8, l9, l10, l11, l12, l13] [x0, x1, x2, x3, x4, x5, x6, x7, x8, x9, x10, x11, x12, x13] u := hyp
theorem RG_b : ∀ l : List Bool, l.length = 14 → ∃ a0 a1 a2 a3 a4 a5 a6 a7 a8 a9 a10 a11 a12 a13, l = [a0, a1, a2, a3, a4, a5, a6, a7, a8, a9, a10, a11, a12, a13]
  | [a0, a1, a2, a3, a4, a5, a6, a7, a8, a9, a10, a11, a12, a13], _ => ⟨a0, a1, a2, a3, a4, a5, a6, a7, a8, a9, a10, a11, a12, a13, rfl⟩
theorem RG_v : ∀ l : List Value, l.length = 14 → ∃ a0 a1 a2 a3 a4 a5 a6 a7 a8 a9 a10 a11 a12 a13, l = [a0, a1, a2, a3, a4, a5, a6, a7, a8, a9, a10, a11, a12, a13]
  | [a0, a1, a2, a3, a4, a5, a6, a7, a8, a9, a10, a11, a12, a13], _ => ⟨a0, a1, a2, a3, a4, a5, a6, a7, a8, a9, a10, a11, a12, a13, rfl⟩
set_option linter.unusedVariables false in
set_option maxHeartbeats 4000000 in
set_option maxRecDepth 100000 in
theorem run_any (N : Int) (lg : List Ev) (A : Option Addr) (n c : Nat) (w : World) (hr : LogR w A n lg) :
    Calls Try.prog 36 #[.int .i64 N, .slice A n c] w (RunRet N lg w) := by
  have HL := Lib.hid hr.len
  have HC := Lib.hid (echk_any N lg A n c w hr)
  have hzL : (Try.prog.info? 72).map (fun i => i.zero) = some (some (.agg #[.slice none 0 0])) := by kernel_rfl
  go_enter Try.func36, Try.ntmps36
  go_wp2_with fail
  refine HC.out.mono ?_
  rintro e wc ⟨rfl, hb1⟩
  by_cases hck : chkE N lg = 0
  · have hkb : (chkE N lg != 0) = false := by simpa using hck
    have HCK := Lib.hid hck
    have HALL := Lib.hid (chkE_zero hck)
    have hn400 : n ≤ 400 := by have h1 := HALL.out.2.1; have h2 := HL.out; omega
    generalize chkE N lg = K at hkb ⊢
    go_wp2_with fail
    have hL0 : Loom w wc.heap.size [] (wc.alloc (.cells #[.slice none 0 0] 72)) := ⟨⟨_, Blk.new _ _ _, LU.nil _ _ _ _⟩, hb1.size, hb1.alloc hb1.size _⟩
    generalize wc.alloc (.cells #[.slice none 0 0] 72) = w2 at *
    go_loopw [20] (fun i wr => ∃ (k : Nat) (ls : List (List Bool)), k ≤ n ∧ i = .int .i64 k ∧ runL (lg.take k) = (0, ls) ∧ Loom w wc.heap.size ls wr) (fun i _ => n - (intOf i).toNat)
    case atStart => exact ⟨0, [], Nat.zero_le _, rfl, rfl, hL0⟩
    case round =>
      obtain ⟨k, ls, hk, rfl, hrn, hL⟩ := hrel
      have HRn := Lib.hid hrn
      clear hrn
      by_cases hlt : k < n
      · obtain ⟨b, of, q, r, A', c', hA, hb, hi, c1, c2, hrr⟩ := (hr.below hL.below).at_ hlt
        subst hA
        have HI := Lib.hid hi
        have hok : evOk N (q, r) := HALL.out.2.2 _ (List.mem_of_getElem? hi)
        have hbk : b < w.heap.size := hr.base (by omega)
        obtain ⟨_, A2, c2', hc2', hra⟩ := hr.lit hi
        have hc2'' := (hL.below.cell (p := ⟨b, of + k * 2 + 1, none⟩) hbk).trans hc2'
        rw [c2] at hc2''
        obtain ⟨rfl, rfl⟩ : A' = A2 ∧ c' = c2' := by simpa using hc2''
        have hrow : RowAt wr w.heap.size 4 A' r := ⟨hrr, fun b' o' hA' hl' => .inl (hra.lt b' o' hA' hl')⟩
        clear hc2' hc2'' hi
        have hls : ls.length ≤ 64 := by have := runL_len (lg.take k); rw [HRn.out] at this; exact this
        obtain ⟨F, hEn, hH, hF⟩ := event_any N w wr.drew wc.heap.size ls q r A' c' hok hls (hL.keep (below_drewN (Below.refl _ _) 1)) hrow
        obtain ⟨code, ls', hst⟩ : ∃ code ls', stepL ls (q, r) = (code, ls') := ⟨_, _, rfl⟩
        rw [hst] at hF
        have HST := Lib.hid hst
        have HEn := Lib.hid hEn
        have HH := Lib.hid hH
        clear hEn
        have HF := Lib.hid hF
        clear hst hH hF hls hrow hrr hra hok
        go_wp2_with fail
        refine wp_region_invL 14 [some 23, some 24, some 25, some 26, some 27, some 28, some 29, some 30, some 31, some 32, some 33, some 34, some 35, some 9] (RG w wr.drew wc.heap.size b of n c k q code A' r.length c' F ls') (by kernel_rfl) rfl rfl (by decide) (by kernel_rfl) (fun xs hx => ?_) (fun i hi => ?_) (fun xs wf hx hG => ?_)
        · obtain ⟨x0, x1, x2, x3, x4, x5, x6, x7, x8, x9, x10, x11, x12, x13, rfl⟩ := RG_v xs hx
          show RG w wr.drew wc.heap.size b of n c k q code A' r.length c' F ls' [false, false, false, false, false, false, false, false, false, false, false, false, false, false] [x0, x1, x2, x3, x4, x5, x6, x7, x8, x9, x10, x11, x12, x13] _
          refine RG_mk w wr.drew wc.heap.size b of n c k q code A' r.length c' F ls' ?_
          exact ⟨⟨fun _ => rfl, fun g => by cases g⟩, (fun g1 => by cases g1), (fun g1 => by cases g1), (fun g1 => by cases g1), (fun g1 => by cases g1), (fun g1 => by cases g1), (fun g1 => by cases g1), (fun g1 => by cases g1), (fun g1 => by cases g1), (fun g1 => by cases g1), (fun g1 => by cases g1), (fun g1 => by cases g1), (fun g1 => by cases g1), (fun g1 => by cases g1), (fun g1 => by cases g1)⟩
        · match i, hi with
          | 0, _ =>
            intro o ho l xs w1 hl hx hG hi hdep K hK
            obtain rfl := Option.some.inj (ho.symm.trans rfl)
            clear ho
            obtain ⟨l0, l1, l2, l3, l4, l5, l6, l7, l8, l9, l10, l11, l12, l13, rfl⟩ := RG_b l hl
            obtain ⟨x0, x1, x2, x3, x4, x5, x6, x7, x8, x9, x10, x11, x12, x13, rfl⟩ := RG_v xs hx
            obtain rfl : l0 = false := hi
            clear hdep hl hx
            dsimp only [setAll, List.set_cons_zero, List.set_cons_succ] at hK ⊢
            go_simp
            refine hK.out _ _ ?_
            clear hK K
            have hC := RG_get w wr.drew wc.heap.size b of n c k q code A' r.length c' F ls' hG
            cases hC
            rename_i SD ez1
            cases ez1
            rename_i h0 ez2
            cases ez2
            rename_i h1 ez3
            cases ez3
            rename_i h2 ez4
            cases ez4
            rename_i h3 ez5
            cases ez5
            rename_i h4 ez6
            cases ez6
            rename_i h5 ez7
            cases ez7
            rename_i h6 ez8
            cases ez8
            rename_i h7 ez9
            cases ez9
            rename_i h8 ez10
            cases ez10
            rename_i h9 ez11
            cases ez11
            rename_i h10 ez12
            cases ez12
            rename_i h11 ez13
            cases ez13
            rename_i h12 h13
            refine RG_mk w wr.drew wc.heap.size b of n c k q code A' r.length c' F ls' ?_
            exact ⟨SD, (fun g1 => rfl), h1, h2, h3, h4, h5, h6, h7, h8, h9, h10, h11, h12, h13⟩
          | 1, _ =>
            intro o ho l xs w1 hl hx hG hi hdep K hK
            obtain rfl := Option.some.inj (ho.symm.trans rfl)
            clear ho
            obtain ⟨l0, l1, l2, l3, l4, l5, l6, l7, l8, l9, l10, l11, l12, l13, rfl⟩ := RG_b l hl
            obtain ⟨x0, x1, x2, x3, x4, x5, x6, x7, x8, x9, x10, x11, x12, x13, rfl⟩ := RG_v xs hx
            obtain rfl : l1 = false := hi
            clear hdep hl hx
            dsimp only [setAll, List.set_cons_zero, List.set_cons_succ] at hK ⊢
            go_simp
            refine hK.out _ _ ?_
            clear hK K
            have hC := RG_get w wr.drew wc.heap.size b of n c k q code A' r.length c' F ls' hG
            cases hC
            rename_i SD ez14
            cases ez14
            rename_i h0 ez15
            cases ez15
            rename_i h1 ez16
            cases ez16
            rename_i h2 ez17
            cases ez17
            rename_i h3 ez18
            cases ez18
            rename_i h4 ez19
            cases ez19
            rename_i h5 ez20
            cases ez20
            rename_i h6 ez21
            cases ez21
            rename_i h7 ez22
            cases ez22
            rename_i h8 ez23
            cases ez23
            rename_i h9 ez24
            cases ez24
            rename_i h10 ez25
            cases ez25
            rename_i h11 ez26
            cases ez26
            rename_i h12 h13
            refine RG_mk w wr.drew wc.heap.size b of n c k q code A' r.length c' F ls' ?_
            exact ⟨SD, h0, (fun g1 => rfl), h2, h3, h4, h5, h6, h7, h8, h9, h10, h11, h12, h13⟩
          | 2, _ =>
            intro o ho l xs w1 hl hx hG hi hdep K hK
            obtain rfl := Option.some.inj (ho.symm.trans rfl)
            clear ho
            obtain ⟨l0, l1, l2, l3, l4, l5, l6, l7, l8, l9, l10, l11, l12, l13, rfl⟩ := RG_b l hl
            obtain ⟨x0, x1, x2, x3, x4, x5, x6, x7, x8, x9, x10, x11, x12, x13, rfl⟩ := RG_v xs hx
            obtain rfl : l2 = false := hi
            obtain rfl : l0 = true := hdep 0 (by kernel_rfl)
            obtain rfl : l1 = true := hdep 1 (by kernel_rfl)
            clear hdep hl hx
            dsimp only [setAll, List.set_cons_zero, List.set_cons_succ] at hK ⊢
            have hf := RG_get w wr.drew wc.heap.size b of n c k q code A' r.length c' F ls' hG
            have hF0 := (hf.2.1 rfl)
            have hF1 := (hf.2.2.1 rfl)
            clear hf
            subst hF0
            subst hF1
            go_simp
            refine hK.out _ _ ?_
            clear hK K
            have hC := RG_get w wr.drew wc.heap.size b of n c k q code A' r.length c' F ls' hG
            cases hC
            rename_i SD ez27
            cases ez27
            rename_i h0 ez28
            cases ez28
            rename_i h1 ez29
            cases ez29
            rename_i h2 ez30
            cases ez30
            rename_i h3 ez31
            cases ez31
            rename_i h4 ez32
            cases ez32
            rename_i h5 ez33
            cases ez33
            rename_i h6 ez34
            cases ez34
            rename_i h7 ez35
            cases ez35
            rename_i h8 ez36
            cases ez36
            rename_i h9 ez37
            cases ez37
            rename_i h10 ez38
            cases ez38
            rename_i h11 ez39
            cases ez39
            rename_i h12 h13
            refine RG_mk w wr.drew wc.heap.size b of n c k q code A' r.length c' F ls' ?_
            exact ⟨SD, h0, h1, (fun g1 => rfl), h3, h4, h5, h6, h7, h8, h9, h10, h11, h12, h13⟩
          | 3, _ =>
            intro o ho l xs w1 hl hx hG hi hdep K hK
            obtain rfl := Option.some.inj (ho.symm.trans rfl)
            clear ho
            obtain ⟨l0, l1, l2, l3, l4, l5, l6, l7, l8, l9, l10, l11, l12, l13, rfl⟩ := RG_b l hl
            obtain ⟨x0, x1, x2, x3, x4, x5, x6, x7, x8, x9, x10, x11, x12, x13, rfl⟩ := RG_v xs hx
            obtain rfl : l3 = false := hi
            obtain rfl : l2 = true := hdep 2 (by kernel_rfl)
            clear hdep hl hx
            dsimp only [setAll, List.set_cons_zero, List.set_cons_succ] at hK ⊢
            have hf := RG_get w wr.drew wc.heap.size b of n c k q code A' r.length c' F ls' hG
            have hF0 := (hf.2.2.2.1 rfl)
            clear hf
            subst hF0
            go_simp
            refine hK.out _ _ ?_
            clear hK K
            have hC := RG_get w wr.drew wc.heap.size b of n c k q code A' r.length c' F ls' hG
            cases hC
            rename_i SD ez40
            cases ez40
            rename_i h0 ez41
            cases ez41
            rename_i h1 ez42
            cases ez42
            rename_i h2 ez43
            cases ez43
            rename_i h3 ez44
            cases ez44
            rename_i h4 ez45
            cases ez45
            rename_i h5 ez46
            cases ez46
            rename_i h6 ez47
            cases ez47
            rename_i h7 ez48
            cases ez48
            rename_i h8 ez49
            cases ez49
            rename_i h9 ez50
            cases ez50
            rename_i h10 ez51
            cases ez51
            rename_i h11 ez52
            cases ez52
            rename_i h12 h13
            refine RG_mk w wr.drew wc.heap.size b of n c k q code A' r.length c' F ls' ?_
            exact ⟨SD, h0, h1, h2, (fun g1 => rfl), h4, h5, h6, h7, h8, h9, h10, h11, h12, h13⟩
          | 4, _ =>
            intro o ho l xs w1 hl hx hG hi hdep K hK
            obtain rfl := Option.some.inj (ho.symm.trans rfl)
            clear ho
            obtain ⟨l0, l1, l2, l3, l4, l5, l6, l7, l8, l9, l10, l11, l12, l13, rfl⟩ := RG_b l hl
            obtain ⟨x0, x1, x2, x3, x4, x5, x6, x7, x8, x9, x10, x11, x12, x13, rfl⟩ := RG_v xs hx
            obtain rfl : l4 = false := hi
            obtain rfl : l3 = true := hdep 3 (by kernel_rfl)
            clear hdep hl hx
            dsimp only [setAll, List.set_cons_zero, List.set_cons_succ] at hK ⊢
            have hf := RG_get w wr.drew wc.heap.size b of n c k q code A' r.length c' F ls' hG
            have hF0 := (hf.2.2.2.2.1 rfl)
            have hl12 : l12 = false := by
              cases l12 with
              | false => rfl
              | true => exact absurd (hf.2.2.2.2.2.2.2.2.2.2.2.2.2.1 rfl).2.1 (by decide)
            subst hl12
            have hF6 := hf.1.1 rfl
            clear hf
            subst hF0
            subst hF6
            go_simp
            refine hK.out _ _ ?_
            clear hK K
            have hC := RG_get w wr.drew wc.heap.size b of n c k q code A' r.length c' F ls' hG
            cases hC
            rename_i SD ez53
            cases ez53
            rename_i h0 ez54
            cases ez54
            rename_i h1 ez55
            cases ez55
            rename_i h2 ez56
            cases ez56
            rename_i h3 ez57
            cases ez57
            rename_i h4 ez58
            cases ez58
            rename_i h5 ez59
            cases ez59
            rename_i h6 ez60
            cases ez60
            rename_i h7 ez61
            cases ez61
            rename_i h8 ez62
            cases ez62
            rename_i h9 ez63
            cases ez63
            rename_i h10 ez64
            cases ez64
            rename_i h11 ez65
            cases ez65
            rename_i h12 h13
            refine RG_mk w wr.drew wc.heap.size b of n c k q code A' r.length c' F ls' ?_
            exact ⟨SD, h0, h1, h2, h3, (fun g1 => rfl), (fun g1 => by obtain ⟨e0, e1⟩ := h5 g1; exact ⟨e0, rfl⟩), h6, h7, h8, h9, h10, h11, (fun g1 => by obtain ⟨e0, e4, e5, e11⟩ := h12 g1; exact absurd g1 (by decide)), h13⟩
          | 5, _ =>
            intro o ho l xs w1 hl hx hG hi hdep K hK
            obtain rfl := Option.some.inj (ho.symm.trans rfl)
            clear ho
            obtain ⟨l0, l1, l2, l3, l4, l5, l6, l7, l8, l9, l10, l11, l12, l13, rfl⟩ := RG_b l hl
            obtain ⟨x0, x1, x2, x3, x4, x5, x6, x7, x8, x9, x10, x11, x12, x13, rfl⟩ := RG_v xs hx
            obtain rfl : l5 = false := hi
            obtain rfl : l4 = true := hdep 4 (by kernel_rfl)
            clear hdep hl hx
            dsimp only [setAll, List.set_cons_zero, List.set_cons_succ] at hK ⊢
            have hf := RG_get w wr.drew wc.heap.size b of n c k q code A' r.length c' F ls' hG
            have hF0 := (hf.2.2.2.2.2.1 rfl)
            have hl12 : l12 = false := by
              cases l12 with
              | false => rfl
              | true => exact absurd (hf.2.2.2.2.2.2.2.2.2.2.2.2.2.1 rfl).2.2.1 (by decide)
            subst hl12
            have hF6 := hf.1.1 rfl
            clear hf
            subst hF0
            subst hF6
            go_simp
            refine (HH.out _).mono ?_
            rintro e wz ⟨rfl, rfl⟩
            try go_simp
            refine hK.out _ _ ?_
            clear hK K
            have hC := RG_get w wr.drew wc.heap.size b of n c k q code A' r.length c' F ls' hG
            cases hC
            rename_i SD ez66
            cases ez66
            rename_i h0 ez67
            cases ez67
            rename_i h1 ez68
            cases ez68
            rename_i h2 ez69
            cases ez69
            rename_i h3 ez70
            cases ez70
            rename_i h4 ez71
            cases ez71
            rename_i h5 ez72
            cases ez72
            rename_i h6 ez73
            cases ez73
            rename_i h7 ez74
            cases ez74
            rename_i h8 ez75
            cases ez75
            rename_i h9 ez76
            cases ez76
            rename_i h10 ez77
            cases ez77
            rename_i h11 ez78
            cases ez78
            rename_i h12 h13
            refine RG_mk w wr.drew wc.heap.size b of n c k q code A' r.length c' F ls' ?_
            exact ⟨SD, h0, h1, h2, h3, h4, (fun g1 => ⟨rfl, rfl⟩), h6, h7, h8, h9, h10, h11, (fun g1 => by obtain ⟨e0, e4, e5, e11⟩ := h12 g1; exact absurd g1 (by decide)), h13⟩
          | 6, _ =>
            intro o ho l xs w1 hl hx hG hi hdep K hK
            obtain rfl := Option.some.inj (ho.symm.trans rfl)
            clear ho
            obtain ⟨l0, l1, l2, l3, l4, l5, l6, l7, l8, l9, l10, l11, l12, l13, rfl⟩ := RG_b l hl
            obtain ⟨x0, x1, x2, x3, x4, x5, x6, x7, x8, x9, x10, x11, x12, x13, rfl⟩ := RG_v xs hx
            obtain rfl : l6 = false := hi
            clear hdep hl hx
            dsimp only [setAll, List.set_cons_zero, List.set_cons_succ] at hK ⊢
            go_simp
            refine hK.out _ _ ?_
            clear hK K
            have hC := RG_get w wr.drew wc.heap.size b of n c k q code A' r.length c' F ls' hG
            cases hC
            rename_i SD ez79
            cases ez79
            rename_i h0 ez80
            cases ez80
            rename_i h1 ez81
            cases ez81
            rename_i h2 ez82
            cases ez82
            rename_i h3 ez83
            cases ez83
            rename_i h4 ez84
            cases ez84
            rename_i h5 ez85
            cases ez85
            rename_i h6 ez86
            cases ez86
            rename_i h7 ez87
            cases ez87
            rename_i h8 ez88
            cases ez88
            rename_i h9 ez89
            cases ez89
            rename_i h10 ez90
            cases ez90
            rename_i h11 ez91
            cases ez91
            rename_i h12 h13
            refine RG_mk w wr.drew wc.heap.size b of n c k q code A' r.length c' F ls' ?_
            exact ⟨SD, h0, h1, h2, h3, h4, h5, (fun g1 => rfl), h7, h8, h9, h10, h11, h12, h13⟩
          | 7, _ =>
            intro o ho l xs w1 hl hx hG hi hdep K hK
            obtain rfl := Option.some.inj (ho.symm.trans rfl)
            clear ho
            obtain ⟨l0, l1, l2, l3, l4, l5, l6, l7, l8, l9, l10, l11, l12, l13, rfl⟩ := RG_b l hl
            obtain ⟨x0, x1, x2, x3, x4, x5, x6, x7, x8, x9, x10, x11, x12, x13, rfl⟩ := RG_v xs hx
            obtain rfl : l7 = false := hi
            clear hdep hl hx
            dsimp only [setAll, List.set_cons_zero, List.set_cons_succ] at hK ⊢
            go_simp
            refine hK.out _ _ ?_
            clear hK K
            have hC := RG_get w wr.drew wc.heap.size b of n c k q code A' r.length c' F ls' hG
            cases hC
            rename_i SD ez92
            cases ez92
            rename_i h0 ez93
            cases ez93
            rename_i h1 ez94
            cases ez94
            rename_i h2 ez95
            cases ez95
            rename_i h3 ez96
            cases ez96
            rename_i h4 ez97
            cases ez97
            rename_i h5 ez98
            cases ez98
            rename_i h6 ez99
            cases ez99
            rename_i h7 ez100
            cases ez100
            rename_i h8 ez101
            cases ez101
            rename_i h9 ez102
            cases ez102
            rename_i h10 ez103
            cases ez103
            rename_i h11 ez104
            cases ez104
            rename_i h12 h13
            refine RG_mk w wr.drew wc.heap.size b of n c k q code A' r.length c' F ls' ?_
            exact ⟨SD, h0, h1, h2, h3, h4, h5, h6, (fun g1 => rfl), h8, h9, h10, h11, h12, h13⟩
          | 8, _ =>
            intro o ho l xs w1 hl hx hG hi hdep K hK
            obtain rfl := Option.some.inj (ho.symm.trans rfl)
            clear ho
            obtain ⟨l0, l1, l2, l3, l4, l5, l6, l7, l8, l9, l10, l11, l12, l13, rfl⟩ := RG_b l hl
            obtain ⟨x0, x1, x2, x3, x4, x5, x6, x7, x8, x9, x10, x11, x12, x13, rfl⟩ := RG_v xs hx
            obtain rfl : l8 = false := hi
            clear hdep hl hx
            dsimp only [setAll, List.set_cons_zero, List.set_cons_succ] at hK ⊢
            go_simp
            refine hK.out _ _ ?_
            clear hK K
            have hC := RG_get w wr.drew wc.heap.size b of n c k q code A' r.length c' F ls' hG
            cases hC
            rename_i SD ez105
            cases ez105
            rename_i h0 ez106
            cases ez106
            rename_i h1 ez107
            cases ez107
            rename_i h2 ez108
            cases ez108
            rename_i h3 ez109
            cases ez109
            rename_i h4 ez110
            cases ez110
            rename_i h5 ez111
            cases ez111
            rename_i h6 ez112
            cases ez112
            rename_i h7 ez113
            cases ez113
            rename_i h8 ez114
            cases ez114
            rename_i h9 ez115
            cases ez115
            rename_i h10 ez116
            cases ez116
            rename_i h11 ez117
            cases ez117
            rename_i h12 h13
            refine RG_mk w wr.drew wc.heap.size b of n c k q code A' r.length c' F ls' ?_
            exact ⟨SD, h0, h1, h2, h3, h4, h5, h6, h7, (fun g1 => rfl), h9, h10, h11, h12, h13⟩
          | 9, _ =>
            intro o ho l xs w1 hl hx hG hi hdep K hK
            obtain rfl := Option.some.inj (ho.symm.trans rfl)
            clear ho
            obtain ⟨l0, l1, l2, l3, l4, l5, l6, l7, l8, l9, l10, l11, l12, l13, rfl⟩ := RG_b l hl
            obtain ⟨x0, x1, x2, x3, x4, x5, x6, x7, x8, x9, x10, x11, x12, x13, rfl⟩ := RG_v xs hx
            obtain rfl : l9 = false := hi
            obtain rfl : l7 = true := hdep 7 (by kernel_rfl)
            obtain rfl : l8 = true := hdep 8 (by kernel_rfl)
            clear hdep hl hx
            dsimp only [setAll, List.set_cons_zero, List.set_cons_succ] at hK ⊢
            have hf := RG_get w wr.drew wc.heap.size b of n c k q code A' r.length c' F ls' hG
            have hF0 := (hf.2.2.2.2.2.2.2.2.1 rfl)
            have hF1 := (hf.2.2.2.2.2.2.2.2.2.1 rfl)
            clear hf
            subst hF0
            subst hF1
            go_simp
            refine hK.out _ _ ?_
            clear hK K
            have hC := RG_get w wr.drew wc.heap.size b of n c k q code A' r.length c' F ls' hG
            cases hC
            rename_i SD ez118
            cases ez118
            rename_i h0 ez119
            cases ez119
            rename_i h1 ez120
            cases ez120
            rename_i h2 ez121
            cases ez121
            rename_i h3 ez122
            cases ez122
            rename_i h4 ez123
            cases ez123
            rename_i h5 ez124
            cases ez124
            rename_i h6 ez125
            cases ez125
            rename_i h7 ez126
            cases ez126
            rename_i h8 ez127
            cases ez127
            rename_i h9 ez128
            cases ez128
            rename_i h10 ez129
            cases ez129
            rename_i h11 ez130
            cases ez130
            rename_i h12 h13
            refine RG_mk w wr.drew wc.heap.size b of n c k q code A' r.length c' F ls' ?_
            exact ⟨SD, h0, h1, h2, h3, h4, h5, h6, h7, h8, (fun g1 => rfl), h10, h11, h12, h13⟩
          | 10, _ =>
            intro o ho l xs w1 hl hx hG hi hdep K hK
            obtain rfl := Option.some.inj (ho.symm.trans rfl)
            clear ho
            obtain ⟨l0, l1, l2, l3, l4, l5, l6, l7, l8, l9, l10, l11, l12, l13, rfl⟩ := RG_b l hl
            obtain ⟨x0, x1, x2, x3, x4, x5, x6, x7, x8, x9, x10, x11, x12, x13, rfl⟩ := RG_v xs hx
            obtain rfl : l10 = false := hi
            obtain rfl : l9 = true := hdep 9 (by kernel_rfl)
            clear hdep hl hx
            dsimp only [setAll, List.set_cons_zero, List.set_cons_succ] at hK ⊢
            have hf := RG_get w wr.drew wc.heap.size b of n c k q code A' r.length c' F ls' hG
            have hF0 := (hf.2.2.2.2.2.2.2.2.2.2.1 rfl)
            clear hf
            subst hF0
            go_simp
            refine hK.out _ _ ?_
            clear hK K
            have hC := RG_get w wr.drew wc.heap.size b of n c k q code A' r.length c' F ls' hG
            cases hC
            rename_i SD ez131
            cases ez131
            rename_i h0 ez132
            cases ez132
            rename_i h1 ez133
            cases ez133
            rename_i h2 ez134
            cases ez134
            rename_i h3 ez135
            cases ez135
            rename_i h4 ez136
            cases ez136
            rename_i h5 ez137
            cases ez137
            rename_i h6 ez138
            cases ez138
            rename_i h7 ez139
            cases ez139
            rename_i h8 ez140
            cases ez140
            rename_i h9 ez141
            cases ez141
            rename_i h10 ez142
            cases ez142
            rename_i h11 ez143
            cases ez143
            rename_i h12 h13
            refine RG_mk w wr.drew wc.heap.size b of n c k q code A' r.length c' F ls' ?_
            exact ⟨SD, h0, h1, h2, h3, h4, h5, h6, h7, h8, h9, (fun g1 => rfl), h11, h12, h13⟩
          | 11, _ =>
            intro o ho l xs w1 hl hx hG hi hdep K hK
            obtain rfl := Option.some.inj (ho.symm.trans rfl)
            clear ho
            obtain ⟨l0, l1, l2, l3, l4, l5, l6, l7, l8, l9, l10, l11, l12, l13, rfl⟩ := RG_b l hl
            obtain ⟨x0, x1, x2, x3, x4, x5, x6, x7, x8, x9, x10, x11, x12, x13, rfl⟩ := RG_v xs hx
            obtain rfl : l11 = false := hi
            obtain rfl : l10 = true := hdep 10 (by kernel_rfl)
            clear hdep hl hx
            dsimp only [setAll, List.set_cons_zero, List.set_cons_succ] at hK ⊢
            have hf := RG_get w wr.drew wc.heap.size b of n c k q code A' r.length c' F ls' hG
            have hF0 := (hf.2.2.2.2.2.2.2.2.2.2.2.1 rfl)
            have hl12 : l12 = false := by
              cases l12 with
              | false => rfl
              | true => exact absurd (hf.2.2.2.2.2.2.2.2.2.2.2.2.2.1 rfl).2.2.2 (by decide)
            subst hl12
            have hF6 := hf.1.1 rfl
            clear hf
            subst hF0
            subst hF6
            go_simp
            refine hK.out _ _ ?_
            clear hK K
            have hC := RG_get w wr.drew wc.heap.size b of n c k q code A' r.length c' F ls' hG
            cases hC
            rename_i SD ez144
            cases ez144
            rename_i h0 ez145
            cases ez145
            rename_i h1 ez146
            cases ez146
            rename_i h2 ez147
            cases ez147
            rename_i h3 ez148
            cases ez148
            rename_i h4 ez149
            cases ez149
            rename_i h5 ez150
            cases ez150
            rename_i h6 ez151
            cases ez151
            rename_i h7 ez152
            cases ez152
            rename_i h8 ez153
            cases ez153
            rename_i h9 ez154
            cases ez154
            rename_i h10 ez155
            cases ez155
            rename_i h11 ez156
            cases ez156
            rename_i h12 h13
            refine RG_mk w wr.drew wc.heap.size b of n c k q code A' r.length c' F ls' ?_
            exact ⟨SD, h0, h1, h2, h3, h4, h5, h6, h7, h8, h9, h10, (fun g1 => rfl), (fun g1 => by obtain ⟨e0, e4, e5, e11⟩ := h12 g1; exact absurd g1 (by decide)), h13⟩
          | 12, _ =>
            intro o ho l xs w1 hl hx hG hi hdep K hK
            obtain rfl := Option.some.inj (ho.symm.trans rfl)
            clear ho
            obtain ⟨l0, l1, l2, l3, l4, l5, l6, l7, l8, l9, l10, l11, l12, l13, rfl⟩ := RG_b l hl
            obtain ⟨x0, x1, x2, x3, x4, x5, x6, x7, x8, x9, x10, x11, x12, x13, rfl⟩ := RG_v xs hx
            obtain rfl : l12 = false := hi
            obtain rfl : l5 = true := hdep 5 (by kernel_rfl)
            obtain rfl : l6 = true := hdep 6 (by kernel_rfl)
            obtain rfl : l11 = true := hdep 11 (by kernel_rfl)
            clear hdep hl hx
            dsimp only [setAll, List.set_cons_zero, List.set_cons_succ] at hK ⊢
            have hf := RG_get w wr.drew wc.heap.size b of n c k q code A' r.length c' F ls' hG
            have hF0 := (hf.2.2.2.2.2.2.1 rfl)
            have hF1 := (hf.2.2.2.2.2.2.2.1 rfl)
            have hF2 := (hf.2.2.2.2.2.2.2.2.2.2.2.2.1 rfl)
            have hF3 := hf.1.1 rfl
            clear hf
            cases hF0
            rename_i ez157 e4
            subst ez157
            subst hF1
            subst hF2
            subst hF3
            go_simp
            rw [HEn.out, Oper.upon_enter]
            refine HF.out.mono ?_
            rintro e wz ⟨rfl, hlm, hbz⟩
            try go_simp
            refine hK.out _ _ ?_
            clear hK K
            have hC := RG_get w wr.drew wc.heap.size b of n c k q code A' r.length c' F ls' hG
            cases hC
            rename_i SD ez158
            cases ez158
            rename_i h0 ez159
            cases ez159
            rename_i h1 ez160
            cases ez160
            rename_i h2 ez161
            cases ez161
            rename_i h3 ez162
            cases ez162
            rename_i h4 ez163
            cases ez163
            rename_i h5 ez164
            cases ez164
            rename_i h6 ez165
            cases ez165
            rename_i h7 ez166
            cases ez166
            rename_i h8 ez167
            cases ez167
            rename_i h9 ez168
            cases ez168
            rename_i h10 ez169
            cases ez169
            rename_i h11 ez170
            cases ez170
            rename_i h12 h13
            refine RG_mk w wr.drew wc.heap.size b of n c k q code A' r.length c' F ls' ?_
            exact ⟨⟨(fun g => by cases g), fun _ => ⟨hlm, hbz⟩⟩, h0, h1, h2, h3, h4, h5, h6, h7, h8, h9, h10, h11, (fun g1 => ⟨rfl, e4, rfl, rfl⟩), h13⟩
          | 13, _ =>
            intro o ho l xs w1 hl hx hG hi hdep K hK
            obtain rfl := Option.some.inj (ho.symm.trans rfl)
            clear ho
            obtain ⟨l0, l1, l2, l3, l4, l5, l6, l7, l8, l9, l10, l11, l12, l13, rfl⟩ := RG_b l hl
            obtain ⟨x0, x1, x2, x3, x4, x5, x6, x7, x8, x9, x10, x11, x12, x13, rfl⟩ := RG_v xs hx
            obtain rfl : l13 = false := hi
            obtain rfl : l12 = true := hdep 12 (by kernel_rfl)
            obtain rfl : l0 = true := hdep 0 (by kernel_rfl)
            obtain rfl : l1 = true := hdep 1 (by kernel_rfl)
            obtain rfl : l2 = true := hdep 2 (by kernel_rfl)
            obtain rfl : l3 = true := hdep 3 (by kernel_rfl)
            obtain rfl : l4 = true := hdep 4 (by kernel_rfl)
            obtain rfl : l5 = true := hdep 5 (by kernel_rfl)
            obtain rfl : l6 = true := hdep 6 (by kernel_rfl)
            obtain rfl : l7 = true := hdep 7 (by kernel_rfl)
            obtain rfl : l8 = true := hdep 8 (by kernel_rfl)
            obtain rfl : l9 = true := hdep 9 (by kernel_rfl)
            obtain rfl : l10 = true := hdep 10 (by kernel_rfl)
            obtain rfl : l11 = true := hdep 11 (by kernel_rfl)
            clear hdep hl hx
            dsimp only [setAll, List.set_cons_zero, List.set_cons_succ] at hK ⊢
            have hf := RG_get w wr.drew wc.heap.size b of n c k q code A' r.length c' F ls' hG
            have hF0 := (hf.2.2.2.2.2.2.2.2.2.2.2.2.2.1 rfl)
            clear hf
            cases hF0
            rename_i ez171 _
            subst ez171
            go_simp
            refine hK.out _ _ ?_
            clear hK K
            have hC := RG_get w wr.drew wc.heap.size b of n c k q code A' r.length c' F ls' hG
            cases hC
            rename_i SD ez172
            cases ez172
            rename_i h0 ez173
            cases ez173
            rename_i h1 ez174
            cases ez174
            rename_i h2 ez175
            cases ez175
            rename_i h3 ez176
            cases ez176
            rename_i h4 ez177
            cases ez177
            rename_i h5 ez178
            cases ez178
            rename_i h6 ez179
            cases ez179
            rename_i h7 ez180
            cases ez180
            rename_i h8 ez181
            cases ez181
            rename_i h9 ez182
            cases ez182
            rename_i h10 ez183
            cases ez183
            rename_i h11 ez184
            cases ez184
            rename_i h12 h13
            refine RG_mk w wr.drew wc.heap.size b of n c k q code A' r.length c' F ls' ?_
            exact ⟨SD, h0, h1, h2, h3, h4, h5, h6, h7, h8, h9, h10, h11, h12, (fun g1 => rfl)⟩
          | k + 14, h => exact absurd h (by omega)
        · obtain ⟨x0, x1, x2, x3, x4, x5, x6, x7, x8, x9, x10, x11, x12, x13, rfl⟩ := RG_v xs hx
          have hG : RG w wr.drew wc.heap.size b of n c k q code A' r.length c' F ls' [true, true, true, true, true, true, true, true, true, true, true, true, true, true] [x0, x1, x2, x3, x4, x5, x6, x7, x8, x9, x10, x11, x12, x13] wf := hG
          have hf := RG_get w wr.drew wc.heap.size b of n c k q code A' r.length c' F ls' hG
          have hF0 := hf.1.2 rfl
          have hF1 := (hf.2.2.2.2.2.2.2.2.2.2.2.2.2.2 rfl)
          clear hf
          cases hF0
          rename_i hlm hbz
          subst hF1
          clear hG
          dsimp only [setAll, List.set_cons_zero, List.set_cons_succ]
          by_cases hc0 : code = 0
          · subst hc0
            have hL2 := hlm rfl
            go_wp2_with fail
            go_roundw
            case rel => exact ⟨k + 1, ls', by omega, by go_num, (runL_next HRn.out HI.out).trans HST.out, hL2⟩
            case measure => simp [intOf]; omega
          · have hcb : (code != 0) = true := by simpa using hc0
            have HX := Lib.hid (show runE N lg = (code, []) from by rw [runE_err HCK.out (by rw [runL_stuck ((runL_next HRn.out HI.out).trans HST.out) hc0]; exact hc0), runL_stuck ((runL_next HRn.out HI.out).trans HST.out) hc0])
            go_wp2_with fail
            go_ret2
            exact .inr ⟨_, rfl, by rw [HX.out], by rw [HX.out]; exact hc0, hbz⟩
      · have hkk : k = n := by omega
        subst hkk
        have HX := Lib.hid (show runE N lg = (0, ls) from runE_ok HCK.out (runL_all HL.out HRn.out))
        go_wp2_with fail
        go_ret2
        exact .inl ⟨_, rfl, by rw [HX.out], by rw [HX.out]; exact hL⟩
  · have hkb : (chkE N lg != 0) = true := by simpa using hck
    have HX := Lib.hid (runE_chk hck)
    have HCK := Lib.hid hck
    generalize hKe : chkE N lg = K at hkb ⊢
    have HKe := Lib.hid hKe
    clear hKe hck
    go_wp2_with fail
    go_ret2
    exact .inr ⟨_, rfl, by rw [HX.out, HKe.out], by rw [HX.out]; exact HCK.out, hb1⟩
end Go.Proofs.Ytfjdlbilnoojkaa
