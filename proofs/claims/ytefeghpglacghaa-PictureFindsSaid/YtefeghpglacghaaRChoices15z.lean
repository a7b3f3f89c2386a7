/- raddleref15.Choices gives the choices of every thread: all colours of the ends are tried. -/
import Derived.Test.YtefeghpglacghaaMg7z
import Derived.Test.YtefeghpglacghaaRFirst15z
import Derived.Test.YtefeghpglacghaaMg3z
import Derived.IntWalk
namespace Go.Proofs.Ytefeghpglacghaa
open Go.RowKit

theorem Try.infoLB : (Try.prog.info? 38).map (fun i => (i.zero, i.size, i.bytes)) = some (some (.slice none 0 0), 1, 24) := by kernel_rfl

theorem own_hd {w : World} {base e n : Nat} {v : Value} {xs : List Value} (h : w.ownsRow base e 1 v n xs) (hn : 0 < n) : ∃ g c, v = .slice (some ⟨g, 0, none⟩) n c ∧ base ≤ g ∧ g < w.heap.size := by
  rcases h.2 with ⟨_, h0⟩ | ⟨g, cap, cur, rfl, h1, _⟩
  · omega
  · exact ⟨g, cap, rfl, h1, (h.lt g rfl).2⟩
theorem Only.put {S : List Nat} {w0 w w' : World} {k : Nat} (h : Only S w0 w) (hg : w.grownBy w' (some k)) (hk : k ∈ S) : Only S w0 w' :=
  h.trans ⟨hg.os, hg.tape, hg.output, hg.size, fun j hj hs => hg.block j hj (fun e => hs (by injection e with e; rw [e]; exact hk))⟩
theorem step_eq {F mk : Nat → Nat → Bool} {n d : Nat} {V : Bool} (hV : (F n d || mk n d) = V) (i d' : Nat) :
    (if i = n then (if d' = d then V else (if n < n ∨ (True ∧ d' < d) then F n d' || mk n d' else F n d')) else (if i < n ∨ (i = n ∧ d' < d) then F i d' || mk i d' else F i d')) = (if i < n ∨ (i = n ∧ d' < d + 1) then F i d' || mk i d' else F i d') := by
  by_cases e : i = n
  · subst e
    rw [if_pos rfl]
    by_cases e2 : d' = d
    · subst e2
      rw [if_pos rfl, if_pos (.inr ⟨rfl, by omega⟩), hV]
    · rw [if_neg e2]
      by_cases e3 : d' < d
      · rw [if_pos (.inr ⟨trivial, e3⟩), if_pos (.inr ⟨rfl, by omega⟩)]
      · rw [if_neg (by omega), if_neg (by omega)]
  · rw [if_neg e]
    by_cases e3 : i < n
    · rw [if_pos (.inl e3), if_pos (.inl e3)]
    · rw [if_neg (by omega), if_neg (by omega)]
theorem madeB : (madeCells #[Value.bool false] 16).toList = (List.replicate 16 false).map Value.bool := by
  rw [toList_madeCells_one]; simp

set_option linter.unusedVariables false in
set_option maxHeartbeats 4000000 in
set_option maxRecDepth 100000 in
theorem rchoices_ok (a b : Nat) (cs : List Int) (gA oA c : Nat) (w : World) (ha1 : 1 ≤ a) (ha : a ≤ 64) (hb1 : 1 ≤ b) (hb : b ≤ 64) (hl : cs.length = b * a) (hf : fineL cs = true) (h0 : chkI ⟨a, b, cs⟩ = 0)
    (hF : ∃ F, FitF (N2 a b) (M2 a cs) F) (hr : Rd w (some ⟨gA, oA, none⟩) (b * a) (cs.map (Value.int .i64))) :
    Calls Try.prog 14 #[.agg #[.int .i64 a, .int .i64 b, .slice (some ⟨gA, oA, none⟩) (b * a) c]] w fun e w' => ∃ (A1 A2 : Option Addr) (c1 c2 : Nat),
      e = .returned (.tuple #[.slice A1 a c1, .slice A2 b c2, .int .i64 0]) ∧
      LL w' w.heap.size 22 3 (.slice A1 a c1) a (chLs a b cs 0 a) ∧ LL w' w.heap.size 22 3 (.slice A2 b c2) b (chLs a b cs 1 b) ∧ Below w.heap.size w w' := by
  obtain ⟨i0, hi0, hz0, hz1, hz2⟩ := info_parts Try.infoI
  obtain ⟨iL, hiL, hzL, hsL, hbL⟩ := info_parts Try.infoL
  obtain ⟨iT, hiT, hzT, hsT, hbT⟩ := info_parts Try.infoLB
  obtain ⟨iB, hiB, hzB, hsB, hbB⟩ := info_parts Try.infoB
  have hba : b * a ≤ 64 * 64 := Nat.mul_le_mul hb ha
  have hV := val_cs hl hf
  have S0 := ((St.start w).addRd hr).box #[.int .i64 a, .int .i64 b, .slice (some ⟨gA, oA, none⟩) (b * a) c] 24
  simp only [List.nil_append, List.cons_append] at S0
  obtain ⟨c0, c1, c2⟩ := (S0.blk 1 rfl).cell3
  have HFI := Lib.hid (fun W h => rfirst_ok a b cs gA oA c W ha1 ha hb1 hb hl hf h0 h)
  have HPL := Lib.hid (fun W h => palette_any a b cs gA oA (b * a) c W h (by omega))
  have hpos := pal_pos (cs := cs)
  have hle := pal_len (cs := cs)
  have HFF := Lib.hid hF
  have HVV := Lib.hid hV
  have HM0 := Lib.hid (Marks.start (a := a) (b := b) (cs := cs))
  have HMS := Lib.hid (fun l F => Marks.skip (a := a) (b := b) (cs := cs) (l := l) (F := F))
  have HMA := Lib.hid (fun l F => Marks.add (a := a) (b := b) (cs := cs) (l := l) (F := F))
  have HME := Lib.hid (fun F x h => Marks.ends (F := F) (x := x) hV h)
  have HMQ := Lib.hid (fun F y h => Marks.picks (F := F) (y := y) hV h)
  have HCO := Lib.hid (fun l gP oP cP gL cL W h1 h2 h3 => colour_any (pal cs) l gP oP cP gL 0 cL (pal cs).length a W h1 h2 ha (by omega) h3)
  have HPK := Lib.hid (fun wv gW oW cW W h1 h2 => picks_any a b cs wv (some ⟨gA, oA, none⟩) gW oW c cW W ha hb hV h1 h2)
  have HP1 := Lib.hid (fun wv gW oW cW y W hy h1 h2 => pick_any a b y cs wv (some ⟨gA, oA, none⟩) gW oW c cW W ha hb hy (fun x hx => (hV x y hx hy).1) h1 h2)
  have HMK := Lib.hid (fun z g base f W hz h1 h2 h3 => mark_any a b cs gA oA (b * a) c z g base f W h1 (by omega) hz h2 h3)
  have HGL : Hid (gA < w.heap.size) := Lib.hid (hr.lt gA oA rfl (Nat.mul_pos hb1 ha1))
  clear hr hV h0 hf hl hF
  obtain ⟨np, hnp⟩ : ∃ np, (pal cs).length = np := ⟨_, rfl⟩
  rw [hnp] at HPL hpos hle HCO HMS HMA HME HMQ
  have HNP := Lib.hid hnp
  clear hnp
  go_enter Try.func14, Try.ntmps14
  go_wp2_with fail
  refine (HFI.out _ (S0.rd 0 rfl)).mono ?_
  rintro e w1 ⟨p0, q0, er, A1, A2, k1, k2, rfl, hFR, _, _, hb1'⟩
  have S1 := S0.keep hb1'
  have HM1 := Lib.hid (S1.blk 1 rfl).lt
  clear c0 c1 c2 hb1' S0 HFI
  obtain ⟨c0, c1, c2⟩ := (S1.blk 1 rfl).cell3
  rcases hFR with ⟨rfl, _⟩ | ⟨_, _, _, hno⟩
  · have HS1 := Lib.hid S1
    clear S1
    have hs1 := HS1.out.size
    generalize p0.length = n0 at *
    generalize q0.length = n1 at *
    go_wp2_with fail
    go_loopw [8, 9] (fun ov iv wr => ∃ (i : Nat) (v : Value) (gs : List Nat), i ≤ a + b ∧ iv = .int .i64 i ∧ ov = v ∧ Al wr w1.heap.size 38 4 v i gs (fun _ _ => false) ∧ Below w1.heap.size w1 wr) (fun _ iv _ => a + b - (intOf iv).toNat)
    case atStart => exact ⟨0, _, [], Nat.zero_le _, rfl, rfl, Al.nil _ _ _ _ _, Below.refl _ _⟩
    case round =>
      clear c0 c1 c2
      obtain ⟨i, v, gs, hi, rfl, rfl, hA, hB⟩ := hrel
      obtain ⟨c0, c1, c2⟩ := ((HS1.out.keep hB).blk 1 rfl).cell3
      by_cases hlt : i < a + b
      · have hsz := hB.size
        have HB := Lib.hid hB
        obtain ⟨A5, k5, rfl, _⟩ := own_shape hA.outer
        go_wp2_with (at_make; go_loud (refine wpList_make_full _ rfl _ _ 38 rfl wr.heap.size 4 iB (.bool false) 1 Try.underlying38 hiB hzB hsB _ _ _ _ 16 rfl rfl ?c1 ?c1' ?c2 ?c3 ?c4 ?_))
        case c1 => rfl
        case c1' => rfl
        case c2 => rw [hbB]; omega
        case c3 => unfold maxLen; omega
        case c4 => exact Nat.le_refl _
        intro w3 hO3 hg3
        rw [madeB] at hO3
        have hb3 : Below wr.heap.size wr w3 := (Below.refl _ _).grown hg3 (Nat.le_refl _) (fun _ h => by cases h)
        have hsz3 := Nat.le_trans hsz hg3.size
        have hA4 := (hA.below hb3).below ((Below.refl _ _).alloc (Nat.le_refl _) (.cells #[.slice (some ⟨wr.heap.size, 0, none⟩) 16 16] 38))
        have hO4 := own_base (hO3.alloc (.cells #[.slice (some ⟨wr.heap.size, 0, none⟩) 16 16] 38)) hsz
        have HLT := Lib.hid (fun g (hg : g ∈ gs) => (hA.lt hg).2)
        have HB3 := Lib.hid (HB.out.trans (hb3.mono hsz))
        clear hO3 hg3 hb3 hA hB c0 c1 c2
        go_wp2_with (at_builtin; go_loud (refine wpList_app _ rfl (.tmp 42) (.tmp 44) 93 rfl w1.heap.size 38 iT (.slice none 0 0) 24 Try.underlying93 hiT hzT hsT hbT rfl (by decide) (.slice A5 i k5) i _ rfl hA4.outer w3.heap.size (.slice (some ⟨wr.heap.size, 0, none⟩) 16 16) rfl (new_cell w3 _ _) rfl (by omega) (size_alloc_le hsz3 _) ?_))
        intro g' cp' w5 hO5 hgr
        have hA5 := hA4.push (by decide) (fun _ => rfl) HLT.out hO4 hO5 hgr
        have hB5 := (HB3.out.alloc hsz3 _).grown hgr (size_alloc_le hsz3 _) (fun kk hkk => (hA4.outer.lt kk hkk).1)
        clear hO5 hgr hA4 hO4
        go_wp2_with fail
        go_roundw
        case rel => exact ⟨i + 1, _, gs ++ [wr.heap.size], by omega, by go_num, rfl, hA5, hB5⟩
        case measure => simp [intOf]; omega
      · obtain rfl : i = a + b := by omega
        have S := HS1.out.keep hB
        have hsz := hB.size
        obtain ⟨gO, kO, rfl, hgO, _⟩ := own_hd hA.outer (by omega)
        have HS := Lib.hid S
        clear S hB HS1
        have hss := HS.out.size
        go_wp2_with fail
        refine (HPL.out _ (HS.out.rd 0 rfl)).mono ?_
        rintro e w2 ⟨AP, cP, rfl, hOP, hb2⟩
        obtain ⟨gP, kP, hAP, hgP, hgP2⟩ := own_hd hOP hpos
        injection hAP with hAP _ hkP
        subst hAP hkP
        have HLT := Lib.hid (fun g (hg : g ∈ gs) => hA.lt hg)
        have hA2 := hA.below hb2
        have hrp2 := rd_of_own hOP
        have hsz2 := hb2.size
        have hm1 := (HS.out.blk 1 rfl).lt
        have S2 := (HS.out.keep hb2).addRd hrp2
        simp only [List.nil_append, List.cons_append] at S2
        have HS2 := Lib.hid S2
        obtain ⟨d0, d1, d2⟩ := (S2.blk 1 rfl).cell3
        clear S2 hA hOP hrp2 hb2 c0 c1 c2
        go_wp2_with (at_make; go_loud (refine wpList_make_full _ rfl _ _ 22 rfl w2.heap.size 3 i0 (.int .i64 0) 1 Try.underlying22 hi0 hz0 hz1 _ _ _ _ a rfl rfl ?c1 ?c1' ?c2 ?c3 ?c4 ?_))
        case c1 => rfl
        case c1' => rfl
        case c2 => rw [hz2]; omega
        case c3 => unfold maxLen; omega
        case c4 => exact Nat.le_refl _
        intro w3 hO3 hg3
        rw [madeI] at hO3
        have hb3 : Below w2.heap.size w2 w3 := (Below.refl _ _).grown hg3 (Nat.le_refl _) (fun _ h => by cases h)
        have hsz3 := hb3.size
        have hA3 := hA2.below hb3
        have hgl := (hO3.lt _ rfl).2
        have HS3 := Lib.hid (HS2.out.keep hb3)
        have HGA : Hid (∀ wz, Only (w2.heap.size :: gs) w3 wz → Rd wz (some ⟨gA, oA, none⟩) (b * a) (cs.map (Value.int .i64)) ∧ Blk wz w.heap.size 24 #[.int .i64 a, .int .i64 b, .slice (some ⟨gA, oA, none⟩) (b * a) c] ∧ Rd wz (some ⟨gP, 0, none⟩) np ((pal cs).map (Value.int .i64))) := Lib.hid (fun wz h => by
          refine ⟨(HS3.out.rd 0 rfl).only h ?_, (HS3.out.blk 1 rfl).only h ?_, (HS3.out.rd 2 rfl).only h ?_⟩
          · intro b o hA _ hm
            injection hA with e
            injection e with e1 _
            subst e1
            have h1 := HGL.out
            rcases List.mem_cons.1 hm with e | e
            · omega
            · have := HLT.out _ e
              omega
          · intro hm
            have h1 := HM1.out
            rcases List.mem_cons.1 hm with e | e
            · omega
            · have := HLT.out _ e
              omega
          · intro b o hA _ hm
            injection hA with e
            injection e with e1 _
            subst e1
            rcases List.mem_cons.1 hm with e | e
            · omega
            · have := HLT.out _ e
              omega)
        clear hg3 hb3 d0 d1 d2 hA2
        go_wp2_with fail
        go_loopg [12] (np ^ a + 1) (fun k sv wz => ∃ (l : List Int) (F : Nat → Nat → Bool) (r : Bool), sv = .bool r ∧ l.length = a ∧
          Hid (Dig np l ∧ (r = true → Marks a b cs (valN np l) F ∧ (k : Int) + valN np l = ((np ^ a : Nat) : Int) + 1) ∧ (r = false → Marks a b cs ((np ^ a : Nat) : Int) F)) ∧
          Al wz w1.heap.size 38 4 (.slice (some ⟨gO, 0, none⟩) (a + b) kO) (a + b) gs F ∧ wz.ownsRow w2.heap.size 3 1 (.slice (some ⟨w2.heap.size, 0, none⟩) a a) a (l.map (Value.int .i64)) ∧ Only (w2.heap.size :: gs) w3 wz)
        case atStart => exact ⟨List.replicate a 0, _, true, rfl, by simp, Lib.hid ⟨Dig.zeros a hpos, fun _ => by
            rw [valN_zeros (fun i hi => by rw [List.getD_eq_getElem?_getD, List.getElem?_eq_getElem hi]; simp)]
            exact ⟨HM0.out, by omega⟩, fun h => (by cases h)⟩, hA3, hO3, Only.refl _ _⟩
        case round =>
          clear hA3 hO3
          obtain ⟨l, F, r, rfl, hll, HI, hA, hO, hN⟩ := hrel
          have hNs := hN.size
          cases r with
          | true =>
            replace HI : Hid (Dig np l ∧ Marks a b cs (valN np l) F ∧ (gk : Int) + valN np l = ((np ^ a : Nat) : Int) + 1) := Lib.hid ⟨HI.out.1, HI.out.2.1 rfl⟩
            obtain ⟨hrA, hbM, hrP⟩ := HGA.out _ hN
            obtain ⟨hgs0, hgs1⟩ : (∀ g ∈ gs, g ∈ w2.heap.size :: gs) ∧ w2.heap.size ∈ w2.heap.size :: gs := ⟨fun g h => List.mem_cons_of_mem _ h, List.mem_cons_self⟩
            have HGS0 := Lib.hid hgs0
            have HGS1 := Lib.hid hgs1
            clear hgs0 hgs1
            go_wp2_with fail
            refine (HCO.out l gP 0 cP w2.heap.size a _ hrP (rd_of_own hO) HI.out.1).mono ?_
            rintro e w4 ⟨A4, c4, rfl, hO4, hb4⟩
            obtain ⟨gW, c4', hA4e, hgW, _⟩ := own_hd hO4 ha1
            injection hA4e with hA4e _ hc4
            subst hA4e hc4
            replace hA := hA.below hb4
            replace hO := own_below hO hb4
            replace hN := hN.trans (Only.of_below hb4)
            clear hrA hbM hrP hb4
            obtain ⟨hrA, hbM, hrP⟩ := HGA.out _ hN
            obtain ⟨c0, c1, c2⟩ := hbM.cell3
            go_wp2_with fail
            refine (HPK.out (colL (pal cs) l) gW 0 c4 _ hrA (rd_of_own hO4)).mono ?_
            rintro e w5 ⟨hb5, hres⟩
            replace hA := hA.below hb5
            replace hO := own_below hO hb5
            replace hO4 := own_below hO4 hb5
            replace hN := hN.trans (Only.of_below hb5)
            clear hrA hbM hrP hb5 c0 c1 c2
            rcases hres with ⟨hok, A5, c5, rfl, _⟩ | ⟨hok, rfl⟩
            · have HLW := Lib.hid ((colL_len (pal cs) l).trans hll)
              have HWV := Lib.hid (fun x (hx : x < a) => colL_val (l := l) (x := x) (by rw [HNP.out]; exact HI.out.1) (by rw [hll]; exact hx))
              have HMF := Lib.hid (HMA.out l F HI.out.2.1 hll HI.out.1 hok)
              clear hok
              generalize colL (pal cs) l = wv at *
              have hO40 := own_base hO4 (Nat.zero_le _)
              clear hO4 hNs
              go_wp2_with fail
              go_loopw [16] (fun xv wz => ∃ x : Nat, x ≤ a ∧ xv = .int .i64 x ∧ Al wz w1.heap.size 38 4 (.slice (some ⟨gO, 0, none⟩) (a + b) kO) (a + b) gs (fun i d => if i < x then F i d || mkI cs a wv i d else F i d) ∧
                wz.ownsRow w2.heap.size 3 1 (.slice (some ⟨w2.heap.size, 0, none⟩) a a) a (l.map (Value.int .i64)) ∧ wz.ownsRow 0 3 1 (.slice (some ⟨gW, 0, none⟩) a c4) a (wv.map (Value.int .i64)) ∧ Only (w2.heap.size :: gs) w3 wz) (fun xv _ => a - (intOf xv).toNat)
              case atStart => exact ⟨0, Nat.zero_le _, rfl, hA.congr fun i d _ _ => by rw [if_neg (by omega)], hO, hO40, hN⟩
              case round =>
                clear hA hO hN hO40
                obtain ⟨x, hx, rfl, hA, hO, hO4, hN⟩ := hrel
                obtain ⟨hrA, hbM, hrP⟩ := HGA.out _ hN
                obtain ⟨c0, c1, c2⟩ := hbM.cell3
                by_cases hxa : x < a
                · have hdr : Below wr.heap.size wr wr.drew := (Below.refl _ _).drew
                  replace hA := hA.below hdr
                  replace hO := own_below hO hdr
                  replace hO4 := own_below hO4 hdr
                  replace hN := hN.trans (Only.of_below hdr)
                  replace hrA := hrA.below hdr
                  clear hdr
                  obtain ⟨g, hgx⟩ : ∃ g, gs[x]? = some g := ⟨_, List.getElem?_eq_getElem (by rw [hA.len]; omega)⟩
                  have hcx := hA.outer.cellAt x (by omega)
                  rw [List.getElem?_map, hgx, Option.map_some] at hcx
                  have g0 : wr.cell? ⟨gW, 0 + x, none⟩ = _ := rd_lit (rd_of_own hO4) hxa
                  rw [Nat.zero_add] at g0
                  replace hcx : wr.cell? ⟨gO, x, none⟩ = _ := hcx
                  obtain ⟨hw0, hw1⟩ := HWV.out x hxa
                  obtain ⟨t, ht⟩ : ∃ t : Nat, wv.getD x 0 = (t : Int) := ⟨(wv.getD x 0).toNat, by omega⟩
                  rw [ht] at g0
                  have ht16 : t < 16 := by omega
                  have HT := Lib.hid ht
                  have hgm := HLT.out g (List.mem_of_getElem? hgx)
                  have hne : gA ≠ g := by have h1 := HGL.out; omega
                  have HCALL := Lib.hid (HMK.out t g w1.heap.size _ _ ht16 hrA hne (hA.row x g hgx))
                  obtain ⟨ys, hyB⟩ := blk_of_own (hA.row x g hgx)
                  have HGX := Lib.hid hgx
                  have HYB := Lib.hid hyB
                  have hxab : x < a + b := by omega
                  have hxab2 : (x : Int) < (a : Int) + (b : Int) := by omega
                  have HKEEP : Hid (∀ w' : World, wr.drew.grownBy w' (some g) → (w'.cell? ⟨w.heap.size, 0, none⟩ = some (.int .i64 a) ∧ w'.cell? ⟨w.heap.size, 1, none⟩ = some (.int .i64 b) ∧ w'.cell? ⟨w.heap.size, 2, none⟩ = some (.slice (some ⟨gA, oA, none⟩) (b * a) c)) ∧ w'.cell? ⟨gO, x, none⟩ = some (.slice (some ⟨g, 0, none⟩) 16 16) ∧ w'.cell? ⟨gW, x, none⟩ = some (.int .i64 t)) := Lib.hid (fun w' h => by
                    have h1 := hN.put h (HGS0.out g (List.mem_of_getElem? hgx))
                    have h2 := (own_other hA.outer h ⟨_, _, hyB, by decide⟩).cellAt x (by omega)
                    rw [List.getElem?_map, hgx, Option.map_some] at h2
                    have h3 := rd_lit (rd_of_own (own_other hO4 h ⟨_, _, hyB, by decide⟩)) hxa
                    rw [Nat.zero_add, ht] at h3
                    exact ⟨(HGA.out _ h1).2.1.cell3, h2, h3⟩)
                  clear hw0 hw1 ht hne hgm hgx hyB hrA hbM hrP
                  go_wp2_with fail
                  go_region_held3 (fun w' => (w'.cell? ⟨w.heap.size, 0, none⟩ = some (.int .i64 a) ∧ w'.cell? ⟨w.heap.size, 1, none⟩ = some (.int .i64 b) ∧ w'.cell? ⟨w.heap.size, 2, none⟩ = some (.slice (some ⟨gA, oA, none⟩) (b * a) c)) ∧ w'.cell? ⟨gO, x, none⟩ = some (.slice (some ⟨g, 0, none⟩) 16 16) ∧ w'.cell? ⟨gW, x, none⟩ = some (.int .i64 t))
                    (first | exact ⟨⟨c0, c1, c2⟩, hcx, g0⟩ | exact HKEEP.out _ (by assumption) | go_keep)
                    (first
                      | (go_at_call 52; ((with_reducible refine HCALL.out.mono ?_); rintro e wz ⟨rfl, hrow, hgz⟩))
                      | fail)
                  all_goals
                    have hA2 := (hA.put (by decide) HGX.out hrow hgz).congr (F' := fun i d => if i < x + 1 then F i d || mkI cs a wv i d else F i d) (fun i d hi hd => by
                      by_cases e : i = x
                      · subst e
                        simp only [if_true]
                        rw [if_neg (by omega), if_pos (by omega)]
                        show _ = (_ || (if i < a then _ else _))
                        rw [if_pos hxa, HT.out]
                      · simp only [if_neg e]
                        by_cases e2 : i < x
                        · rw [if_pos e2, if_pos (by omega)]
                        · rw [if_neg e2, if_neg (by omega)])
                    have hO2 := own_other hO hgz ⟨_, _, HYB.out, by decide⟩
                    have hO42 := own_other hO4 hgz ⟨_, _, HYB.out, by decide⟩
                    have hN2 := hN.put hgz (HGS0.out g (List.mem_of_getElem? HGX.out))
                    clear hA hO hO4 hN hrow hgz c0 c1 c2 hcx g0 HCALL HKEEP
                    go_wp2_with fail
                    go_roundw
                    case rel => exact ⟨x + 1, by omega, by go_num, hA2, hO2, hO42, hN2⟩
                    case measure => simp [intOf]; omega
                · obtain rfl : x = a := by omega
                  clear hrA hbM hrP
                  go_wp2_with fail
                  clear c0 c1 c2
                  go_loopw [17] (fun yv wz => ∃ y : Nat, y ≤ b ∧ yv = .int .i64 y ∧ Al wz w1.heap.size 38 4 (.slice (some ⟨gO, 0, none⟩) (x + b) kO) (x + b) gs (fun i d => if i < x + y then F i d || mkI cs x wv i d else F i d) ∧
                    wz.ownsRow w2.heap.size 3 1 (.slice (some ⟨w2.heap.size, 0, none⟩) x x) x (l.map (Value.int .i64)) ∧ wz.ownsRow 0 3 1 (.slice (some ⟨gW, 0, none⟩) x c4) x (wv.map (Value.int .i64)) ∧ Only (w2.heap.size :: gs) w3 wz) (fun yv _ => b - (intOf yv).toNat)
                  case atStart => exact ⟨0, Nat.zero_le _, rfl, hA, hO, hO4, hN⟩
                  case round =>
                    clear hA hO hN hO4
                    obtain ⟨y, hy, rfl, hA, hO, hO4, hN⟩ := hrel
                    obtain ⟨hrA, hbM, hrP⟩ := HGA.out _ hN
                    obtain ⟨c0, c1, c2⟩ := hbM.cell3
                    by_cases hyb : y < b
                    · have HCALL := Lib.hid (HP1.out wv gW 0 c4 y _ hyb hrA (rd_of_own hO4))
                      obtain ⟨q, hq⟩ : ∃ q, pickN cs x wv y x = q := ⟨_, rfl⟩
                      rw [hq] at HCALL
                      have HQ := Lib.hid hq
                      clear hq hrA hbM hrP
                      go_wp2_with fail
                      refine HCALL.out.mono ?_
                      rintro e w6 ⟨rfl, hb6⟩
                      replace hA := hA.below hb6
                      replace hO := own_below hO hb6
                      replace hO4 := own_below hO4 hb6
                      replace hN := hN.trans (Only.of_below hb6)
                      clear HCALL c0 c1 c2 hb6
                      go_wp2_with fail
                      go_loopw [19] (fun dv wz => ∃ d : Nat, d ≤ 16 ∧ dv = .int .i64 d ∧ Al wz w1.heap.size 38 4 (.slice (some ⟨gO, 0, none⟩) (x + b) kO) (x + b) gs (fun i d' => if i < x + y ∨ (i = x + y ∧ d' < d) then F i d' || mkI cs x wv i d' else F i d') ∧
                        wz.ownsRow w2.heap.size 3 1 (.slice (some ⟨w2.heap.size, 0, none⟩) x x) x (l.map (Value.int .i64)) ∧ wz.ownsRow 0 3 1 (.slice (some ⟨gW, 0, none⟩) x c4) x (wv.map (Value.int .i64)) ∧ Only (w2.heap.size :: gs) w3 wz) (fun dv _ => 16 - (intOf dv).toNat)
                      case atStart => exact ⟨0, Nat.zero_le _, rfl, hA.congr (fun i d _ _ => by
                        by_cases e : i < x + y
                        · rw [if_pos e, if_pos (.inl e)]
                        · rw [if_neg e, if_neg (by omega)]), hO, hO4, hN⟩
                      case round =>
                        clear hA hO hN hO4
                        obtain ⟨d, hd, rfl, hA, hO, hO4, hN⟩ := hrel
                        obtain ⟨hrA, hbM, hrP⟩ := HGA.out _ hN
                        obtain ⟨c0, c1, c2⟩ := hbM.cell3
                        by_cases hd16 : d < 16
                        · have hdr : Below wr.heap.size wr wr.drew := (Below.refl _ _).drew
                          replace hA := hA.below hdr
                          replace hO := own_below hO hdr
                          replace hO4 := own_below hO4 hdr
                          replace hN := hN.trans (Only.of_below hdr)
                          clear hdr
                          obtain ⟨g, hgx⟩ : ∃ g, gs[x + y]? = some g := ⟨_, List.getElem?_eq_getElem (by rw [hA.len]; omega)⟩
                          have hcx := hA.outer.cellAt (x + y) (by omega)
                          rw [List.getElem?_map, hgx, Option.map_some] at hcx
                          have hrow := hA.row (x + y) g hgx
                          obtain ⟨ys, hyB⟩ := blk_of_own hrow
                          have hcell := hrow.cellAt d (by omega)
                          rw [flags_at hd16, if_neg (by omega)] at hcell
                          have hfr := hrow.frozenAt d
                          have HST := Lib.hid (fun v => show _ ∧ _ from by
                            have h := hrow.stored d (.bool v)
                            rw [flags_set] at h
                            exact h)
                          have HGX := Lib.hid hgx
                          have HYB := Lib.hid hyB
                          have hxab : x + y < x + b := by omega
                          clear hrow hyB hgx hrA hbM hrP
                          have hwr : IntKind.i64.wrap ((x : Int) + (y : Int)) = (x : Int) + (y : Int) := by rw [IntWalk.i64_in _ (by omega)]
                          have hd16i : (d : Int) < 16 := by omega
                          have hw0 : 0 ≤ (x : Int) + (y : Int) := by omega
                          have hw1 : ((x : Int) + (y : Int)).toNat = x + y := by omega
                          have hw2 : (x : Int) + (y : Int) < (x : Int) + (b : Int) := by omega
                          have HMI : Hid (mkI cs x wv (x + y) d = mkQ q d) := Lib.hid (by
                            unfold mkI
                            rw [if_neg (by omega), show x + y - x = y by omega, HQ.out])
                          have HKEEP : Hid (∀ w' : World, wr.drew.grownBy w' (some g) → (w'.cell? ⟨w.heap.size, 0, none⟩ = some (.int .i64 x) ∧ w'.cell? ⟨w.heap.size, 1, none⟩ = some (.int .i64 b) ∧ w'.cell? ⟨w.heap.size, 2, none⟩ = some (.slice (some ⟨gA, oA, none⟩) (b * x) c)) ∧ w'.cell? ⟨gO, x + y, none⟩ = some (.slice (some ⟨g, 0, none⟩) 16 16)) := Lib.hid (fun w' h => by
                            have h1 := hN.put h (HGS0.out g (List.mem_of_getElem? HGX.out))
                            have h2 := (own_other hA.outer h ⟨_, _, HYB.out, by decide⟩).cellAt (x + y) (by omega)
                            rw [List.getElem?_map, HGX.out, Option.map_some] at h2
                            exact ⟨(HGA.out _ h1).2.1.cell3, h2⟩)
                          cases hfv : F (x + y) d with
                          | true =>
                            rw [hfv] at hcell
                            have HV : Hid ((F (x + y) d || mkI cs x wv (x + y) d) = true) := Lib.hid (by rw [HMI.out, hfv]; rfl)
                            clear hfv
                            go_wp2_with fail
                            refine wp_region_held_drew (S := (fun w' => (w'.cell? ⟨w.heap.size, 0, none⟩ = some (.int .i64 x) ∧ w'.cell? ⟨w.heap.size, 1, none⟩ = some (.int .i64 b) ∧ w'.cell? ⟨w.heap.size, 2, none⟩ = some (.slice (some ⟨gA, oA, none⟩) (b * x) c)) ∧ w'.cell? ⟨gO, x + y, none⟩ = some (.slice (some ⟨g, 0, none⟩) 16 16))) (by kernel_rfl) ?_ (fun hHeld => ?_)
                            · (try dsimp only); first | exact HKEEP.out _ (World.grownBy.refl _ _) | exact HKEEP.out _ (HST.out _).2
                            refine man_take 0 97 (v := ?_) ⟨_, rfl, rfl⟩ (by kernel_rfl) (by kernel_rfl) (by kernel_rfl) (fun _ _ _ h => h) (by assumption) ?_ ?_
                            rotate_left
                            · intro oi ho; cases ho; refine ⟨by rfl, ?_⟩; intro w hSw; (try dsimp only at hSw); go_simp; try with_reducible rfl
                            (try simp only [Act.put, List.setIfInBounds_toArray, List.set_cons_zero, List.set_cons_succ])
                            refine man_take 1 98 (v := ?_) ⟨_, rfl, rfl⟩ (by kernel_rfl) (by kernel_rfl) (by kernel_rfl) (fun _ _ _ h => h) (by assumption) ?_ ?_
                            rotate_left
                            · intro oi ho; cases ho; refine ⟨by rfl, ?_⟩; intro w hSw; (try dsimp only at hSw); go_simp; try with_reducible rfl
                            (try simp only [Act.put, List.setIfInBounds_toArray, List.set_cons_zero, List.set_cons_succ])
                            refine man_take 2 99 (v := ?_) ⟨_, rfl, rfl⟩ (by kernel_rfl) (by kernel_rfl) (by kernel_rfl) (fun _ _ _ h => h) (by assumption) ?_ ?_
                            rotate_left
                            · intro oi ho; cases ho; refine ⟨by rfl, ?_⟩; intro w hSw; (try dsimp only at hSw); go_simp; try with_reducible rfl
                            (try simp only [Act.put, List.setIfInBounds_toArray, List.set_cons_zero, List.set_cons_succ])
                            refine man_take 3 100 (v := ?_) ⟨_, rfl, rfl⟩ (by kernel_rfl) (by kernel_rfl) (by kernel_rfl) (fun _ _ _ h => h) (by assumption) ?_ ?_
                            rotate_left
                            · intro oi ho; cases ho; refine ⟨by rfl, ?_⟩; intro w hSw; (try dsimp only at hSw); go_simp; try with_reducible rfl
                            (try simp only [Act.put, List.setIfInBounds_toArray, List.set_cons_zero, List.set_cons_succ])
                            refine man_take 4 101 (v := ?_) ⟨_, rfl, rfl⟩ (by kernel_rfl) (by kernel_rfl) (by kernel_rfl) (fun _ _ _ h => h) (by assumption) ?_ ?_
                            rotate_left
                            · intro oi ho; cases ho; refine ⟨by rfl, ?_⟩; intro w hSw; (try dsimp only at hSw); go_simp; try with_reducible rfl
                            (try simp only [Act.put, List.setIfInBounds_toArray, List.set_cons_zero, List.set_cons_succ])
                            refine man_take 5 102 (v := ?_) ⟨_, rfl, rfl⟩ (by kernel_rfl) (by kernel_rfl) (by kernel_rfl) (fun _ _ _ h => h) (by assumption) ?_ ?_
                            rotate_left
                            · intro oi ho; cases ho; refine ⟨by rfl, ?_⟩; intro w hSw; (try dsimp only at hSw); go_simp; try with_reducible rfl
                            (try simp only [Act.put, List.setIfInBounds_toArray, List.set_cons_zero, List.set_cons_succ])
                            refine man_take 6 103 (v := ?_) ⟨_, rfl, rfl⟩ (by kernel_rfl) (by kernel_rfl) (by kernel_rfl) (fun _ _ _ h => h) (by assumption) ?_ ?_
                            rotate_left
                            · intro oi ho; cases ho; refine ⟨by rfl, ?_⟩; intro w hSw; (try dsimp only at hSw); go_simp; try with_reducible rfl
                            (try simp only [Act.put, List.setIfInBounds_toArray, List.set_cons_zero, List.set_cons_succ])
                            refine man_take 7 104 (v := ?_) ⟨_, rfl, rfl⟩ (by kernel_rfl) (by kernel_rfl) (by kernel_rfl) (fun _ _ _ h => h) (by assumption) ?_ ?_
                            rotate_left
                            · intro oi ho; cases ho; refine ⟨by rfl, ?_⟩; intro w hSw; (try dsimp only at hSw); go_simp; try with_reducible rfl
                            (try simp only [Act.put, List.setIfInBounds_toArray, List.set_cons_zero, List.set_cons_succ])
                            refine man_take 8 105 (v := ?_) ⟨_, rfl, rfl⟩ (by kernel_rfl) (by kernel_rfl) (by kernel_rfl) (fun _ _ _ h => h) (by assumption) ?_ ?_
                            rotate_left
                            · intro oi ho; cases ho; refine ⟨by rfl, ?_⟩; intro w hSw; (try dsimp only at hSw); go_simp; try with_reducible rfl
                            (try simp only [Act.put, List.setIfInBounds_toArray, List.set_cons_zero, List.set_cons_succ])
                            refine man_take 9 106 (v := ?_) ⟨_, rfl, rfl⟩ (by kernel_rfl) (by kernel_rfl) (by kernel_rfl) (fun _ _ _ h => h) (by assumption) ?_ ?_
                            rotate_left
                            · intro oi ho; cases ho; refine ⟨by rfl, ?_⟩; intro w hSw; (try dsimp only at hSw); go_simp; try with_reducible rfl
                            (try simp only [Act.put, List.setIfInBounds_toArray, List.set_cons_zero, List.set_cons_succ])
                            refine man_take 10 107 (v := ?_) ⟨_, rfl, rfl⟩ (by kernel_rfl) (by kernel_rfl) (by kernel_rfl) (fun _ _ _ h => h) (by assumption) ?_ ?_
                            rotate_left
                            · intro oi ho; cases ho; refine ⟨by rfl, ?_⟩; intro w hSw; (try dsimp only at hSw); go_simp; try with_reducible rfl
                            (try simp only [Act.put, List.setIfInBounds_toArray, List.set_cons_zero, List.set_cons_succ])
                            refine man_take 11 108 (v := ?_) ⟨_, rfl, rfl⟩ (by kernel_rfl) (by kernel_rfl) (by kernel_rfl) (fun _ _ _ h => h) (by assumption) ?_ ?_
                            rotate_left
                            · intro oi ho; cases ho; refine ⟨by rfl, ?_⟩; intro w hSw; (try dsimp only at hSw); go_simp; try with_reducible rfl
                            (try simp only [Act.put, List.setIfInBounds_toArray, List.set_cons_zero, List.set_cons_succ])
                            refine man_take 12 109 (v := ?_) ⟨_, rfl, rfl⟩ (by kernel_rfl) (by kernel_rfl) (by kernel_rfl) (fun _ _ _ h => h) (by assumption) ?_ ?_
                            rotate_left
                            · intro oi ho; cases ho; refine ⟨by rfl, ?_⟩; intro w hSw; (try dsimp only at hSw); go_simp; try with_reducible rfl
                            (try simp only [Act.put, List.setIfInBounds_toArray, List.set_cons_zero, List.set_cons_succ])
                            refine man_take 13 110 (v := ?_) ⟨_, rfl, rfl⟩ (by kernel_rfl) (by kernel_rfl) (by kernel_rfl) (fun _ _ _ h => h) (by assumption) ?_ ?_
                            rotate_left
                            · intro oi ho; cases ho; refine ⟨by rfl, ?_⟩; intro w hSw; (try dsimp only at hSw); go_simp; try with_reducible rfl
                            (try simp only [Act.put, List.setIfInBounds_toArray, List.set_cons_zero, List.set_cons_succ])
                            refine man_take 14 111 (v := ?_) ⟨_, rfl, rfl⟩ (by kernel_rfl) (by kernel_rfl) (by kernel_rfl) (fun _ _ _ h => h) (by assumption) ?_ ?_
                            rotate_left
                            · intro oi ho; cases ho; refine ⟨by rfl, ?_⟩; intro w hSw; (try dsimp only at hSw); go_simp; try with_reducible rfl
                            (try simp only [Act.put, List.setIfInBounds_toArray, List.set_cons_zero, List.set_cons_succ])
                            refine man_take 15 112 (v := ?_) ⟨_, rfl, rfl⟩ (by kernel_rfl) (by kernel_rfl) (by kernel_rfl) (fun _ _ _ h => h) (by assumption) ?_ ?_
                            rotate_left
                            · intro oi ho; cases ho; refine ⟨by rfl, ?_⟩; intro w hSw; (try dsimp only at hSw); go_simp; try with_reducible rfl
                            (try simp only [Act.put, List.setIfInBounds_toArray, List.set_cons_zero, List.set_cons_succ])
                            refine man_take 16 113 (v := ?_) ⟨_, rfl, rfl⟩ (by kernel_rfl) (by kernel_rfl) (by kernel_rfl) (fun _ _ _ h => h) (by assumption) ?_ ?_
                            rotate_left
                            · intro oi ho; cases ho; refine ⟨by rfl, ?_⟩; intro w hSw; (try dsimp only at hSw); go_simp; try with_reducible rfl
                            (try simp only [Act.put, List.setIfInBounds_toArray, List.set_cons_zero, List.set_cons_succ])
                            refine man_run 17 rfl (by kernel_rfl) (fun K hK => ?_)
                            go_simp
                            refine hK.out _ _ ?_ (fun hHeld => ?_)
                            · (try dsimp only); first | exact HKEEP.out _ (World.grownBy.refl _ _) | exact HKEEP.out _ (HST.out _).2
                            clear hK K
                            (try simp only [Act.put, List.setIfInBounds_toArray, List.set_cons_zero, List.set_cons_succ])
                            refine man_take 18 115 (v := ?_) ⟨_, rfl, rfl⟩ (by kernel_rfl) (by kernel_rfl) (by kernel_rfl) (fun _ _ _ h => h) (by assumption) ?_ ?_
                            rotate_left
                            · intro oi ho; cases ho; refine ⟨by rfl, ?_⟩; intro w hSw; (try dsimp only at hSw); go_simp; try with_reducible rfl
                            (try simp only [Act.put, List.setIfInBounds_toArray, List.set_cons_zero, List.set_cons_succ])
                            refine man_skip 19 116 ⟨_, rfl, rfl⟩ (by kernel_rfl) (by kernel_rfl) (by kernel_rfl) (fun _ _ _ h => h) (by assumption) ?_ ?_
                            · intro oi ho; cases ho; rfl
                            (try simp only [Act.put, List.setIfInBounds_toArray, List.set_cons_zero, List.set_cons_succ])
                            refine man_skip 20 117 ⟨_, rfl, rfl⟩ (by kernel_rfl) (by kernel_rfl) (by kernel_rfl) (fun _ _ _ h => h) (by assumption) ?_ ?_
                            · intro oi ho; cases ho; rfl
                            (try simp only [Act.put, List.setIfInBounds_toArray, List.set_cons_zero, List.set_cons_succ])
                            refine man_take 21 118 (v := ?_) ⟨_, rfl, rfl⟩ (by kernel_rfl) (by kernel_rfl) (by kernel_rfl) (fun _ _ _ h => h) (by assumption) ?_ ?_
                            rotate_left
                            · intro oi ho; cases ho; refine ⟨by rfl, ?_⟩; intro w hSw; (try dsimp only at hSw); go_simp; try with_reducible rfl
                            (try simp only [Act.put, List.setIfInBounds_toArray, List.set_cons_zero, List.set_cons_succ])
                            refine man_take 22 119 (v := ?_) ⟨_, rfl, rfl⟩ (by kernel_rfl) (by kernel_rfl) (by kernel_rfl) (fun _ _ _ h => h) (by assumption) ?_ ?_
                            rotate_left
                            · intro oi ho; cases ho; refine ⟨by rfl, ?_⟩; intro w hSw; (try dsimp only at hSw); go_simp; try with_reducible rfl
                            (try simp only [Act.put, List.setIfInBounds_toArray, List.set_cons_zero, List.set_cons_succ])
                            refine man_skip 23 120 ⟨_, rfl, rfl⟩ (by kernel_rfl) (by kernel_rfl) (by kernel_rfl) (fun _ _ _ h => h) (by assumption) ?_ ?_
                            · intro oi ho; cases ho; rfl
                            (try simp only [Act.put, List.setIfInBounds_toArray, List.set_cons_zero, List.set_cons_succ])
                            refine man_skip 24 121 ⟨_, rfl, rfl⟩ (by kernel_rfl) (by kernel_rfl) (by kernel_rfl) (fun _ _ _ h => h) (by assumption) ?_ ?_
                            · intro oi ho; cases ho; rfl
                            (try simp only [Act.put, List.setIfInBounds_toArray, List.set_cons_zero, List.set_cons_succ])
                            refine man_skip 25 122 ⟨_, rfl, rfl⟩ (by kernel_rfl) (by kernel_rfl) (by kernel_rfl) (fun _ _ _ h => h) (by assumption) ?_ ?_
                            · intro oi ho; cases ho; rfl
                            (try simp only [Act.put, List.setIfInBounds_toArray, List.set_cons_zero, List.set_cons_succ])
                            refine man_take 26 123 (v := ?_) ⟨_, rfl, rfl⟩ (by kernel_rfl) (by kernel_rfl) (by kernel_rfl) (fun _ _ _ h => h) (by assumption) ?_ ?_
                            rotate_left
                            · intro oi ho; cases ho; refine ⟨by rfl, ?_⟩; intro w hSw; (try dsimp only at hSw); go_simp; try with_reducible rfl
                            (try simp only [Act.put, List.setIfInBounds_toArray, List.set_cons_zero, List.set_cons_succ])
                            refine man_take 27 124 (v := ?_) ⟨_, rfl, rfl⟩ (by kernel_rfl) (by kernel_rfl) (by kernel_rfl) (fun _ _ _ h => h) (by assumption) ?_ ?_
                            rotate_left
                            · intro oi ho; cases ho; refine ⟨by rfl, ?_⟩; intro w hSw; (try dsimp only at hSw); go_simp; try with_reducible rfl
                            (try simp only [Act.put, List.setIfInBounds_toArray, List.set_cons_zero, List.set_cons_succ])
                            refine man_run 28 rfl (by kernel_rfl) (fun K hK => ?_)
                            go_simp
                            refine hK.out _ _ ?_ (fun hHeld => ?_)
                            · (try dsimp only); first | exact HKEEP.out _ (World.grownBy.refl _ _) | exact HKEEP.out _ (HST.out _).2
                            clear hK K
                            refine wpAnyH_done (by kernel_rfl) ?_ _
                            have hA2 := (hA.put (by decide) HGX.out (HST.out true).1 (HST.out true).2).congr (F' := fun i d' => if i < x + y ∨ (i = x + y ∧ d' < d + 1) then F i d' || mkI cs x wv i d' else F i d') (fun i d' _ _ => step_eq (mk := mkI cs x wv) HV.out i d')
                            have hO2 := own_other hO (HST.out true).2 ⟨_, _, HYB.out, by decide⟩
                            have hO42 := own_other hO4 (HST.out true).2 ⟨_, _, HYB.out, by decide⟩
                            have hN2 := hN.put (HST.out true).2 (HGS0.out g (List.mem_of_getElem? HGX.out))
                            clear hA hO hO4 hN c0 c1 c2 hcx hcell hfr HKEEP HST hwr hw0 hw1 hw2
                            go_wp2_with fail
                            go_roundw
                            case rel => exact ⟨d + 1, by omega, by go_num, hA2, hO2, hO42, hN2⟩
                            case measure => simp [intOf]; omega
                          | false =>
                            rw [hfv] at hcell
                            cases hq0 : decide (q < 0) with
                            | true =>
                              have HV : Hid ((F (x + y) d || mkI cs x wv (x + y) d) = true) := Lib.hid (by rw [HMI.out, hfv]; unfold mkQ; rw [hq0]; rfl)
                              clear hfv
                              go_wp2_with fail
                              refine wp_region_held_drew (S := (fun w' => (w'.cell? ⟨w.heap.size, 0, none⟩ = some (.int .i64 x) ∧ w'.cell? ⟨w.heap.size, 1, none⟩ = some (.int .i64 b) ∧ w'.cell? ⟨w.heap.size, 2, none⟩ = some (.slice (some ⟨gA, oA, none⟩) (b * x) c)) ∧ w'.cell? ⟨gO, x + y, none⟩ = some (.slice (some ⟨g, 0, none⟩) 16 16))) (by kernel_rfl) ?_ (fun hHeld => ?_)
                              · (try dsimp only); first | exact HKEEP.out _ (World.grownBy.refl _ _) | exact HKEEP.out _ (HST.out _).2
                              refine man_take 0 97 (v := ?_) ⟨_, rfl, rfl⟩ (by kernel_rfl) (by kernel_rfl) (by kernel_rfl) (fun _ _ _ h => h) (by assumption) ?_ ?_
                              rotate_left
                              · intro oi ho; cases ho; refine ⟨by rfl, ?_⟩; intro w hSw; (try dsimp only at hSw); go_simp; try with_reducible rfl
                              (try simp only [Act.put, List.setIfInBounds_toArray, List.set_cons_zero, List.set_cons_succ])
                              refine man_take 1 98 (v := ?_) ⟨_, rfl, rfl⟩ (by kernel_rfl) (by kernel_rfl) (by kernel_rfl) (fun _ _ _ h => h) (by assumption) ?_ ?_
                              rotate_left
                              · intro oi ho; cases ho; refine ⟨by rfl, ?_⟩; intro w hSw; (try dsimp only at hSw); go_simp; try with_reducible rfl
                              (try simp only [Act.put, List.setIfInBounds_toArray, List.set_cons_zero, List.set_cons_succ])
                              refine man_take 2 99 (v := ?_) ⟨_, rfl, rfl⟩ (by kernel_rfl) (by kernel_rfl) (by kernel_rfl) (fun _ _ _ h => h) (by assumption) ?_ ?_
                              rotate_left
                              · intro oi ho; cases ho; refine ⟨by rfl, ?_⟩; intro w hSw; (try dsimp only at hSw); go_simp; try with_reducible rfl
                              (try simp only [Act.put, List.setIfInBounds_toArray, List.set_cons_zero, List.set_cons_succ])
                              refine man_take 3 100 (v := ?_) ⟨_, rfl, rfl⟩ (by kernel_rfl) (by kernel_rfl) (by kernel_rfl) (fun _ _ _ h => h) (by assumption) ?_ ?_
                              rotate_left
                              · intro oi ho; cases ho; refine ⟨by rfl, ?_⟩; intro w hSw; (try dsimp only at hSw); go_simp; try with_reducible rfl
                              (try simp only [Act.put, List.setIfInBounds_toArray, List.set_cons_zero, List.set_cons_succ])
                              refine man_take 4 101 (v := ?_) ⟨_, rfl, rfl⟩ (by kernel_rfl) (by kernel_rfl) (by kernel_rfl) (fun _ _ _ h => h) (by assumption) ?_ ?_
                              rotate_left
                              · intro oi ho; cases ho; refine ⟨by rfl, ?_⟩; intro w hSw; (try dsimp only at hSw); go_simp; try with_reducible rfl
                              (try simp only [Act.put, List.setIfInBounds_toArray, List.set_cons_zero, List.set_cons_succ])
                              refine man_take 5 102 (v := ?_) ⟨_, rfl, rfl⟩ (by kernel_rfl) (by kernel_rfl) (by kernel_rfl) (fun _ _ _ h => h) (by assumption) ?_ ?_
                              rotate_left
                              · intro oi ho; cases ho; refine ⟨by rfl, ?_⟩; intro w hSw; (try dsimp only at hSw); go_simp; try with_reducible rfl
                              (try simp only [Act.put, List.setIfInBounds_toArray, List.set_cons_zero, List.set_cons_succ])
                              refine man_take 6 103 (v := ?_) ⟨_, rfl, rfl⟩ (by kernel_rfl) (by kernel_rfl) (by kernel_rfl) (fun _ _ _ h => h) (by assumption) ?_ ?_
                              rotate_left
                              · intro oi ho; cases ho; refine ⟨by rfl, ?_⟩; intro w hSw; (try dsimp only at hSw); go_simp; try with_reducible rfl
                              (try simp only [Act.put, List.setIfInBounds_toArray, List.set_cons_zero, List.set_cons_succ])
                              refine man_take 7 104 (v := ?_) ⟨_, rfl, rfl⟩ (by kernel_rfl) (by kernel_rfl) (by kernel_rfl) (fun _ _ _ h => h) (by assumption) ?_ ?_
                              rotate_left
                              · intro oi ho; cases ho; refine ⟨by rfl, ?_⟩; intro w hSw; (try dsimp only at hSw); go_simp; try with_reducible rfl
                              (try simp only [Act.put, List.setIfInBounds_toArray, List.set_cons_zero, List.set_cons_succ])
                              refine man_take 8 105 (v := ?_) ⟨_, rfl, rfl⟩ (by kernel_rfl) (by kernel_rfl) (by kernel_rfl) (fun _ _ _ h => h) (by assumption) ?_ ?_
                              rotate_left
                              · intro oi ho; cases ho; refine ⟨by rfl, ?_⟩; intro w hSw; (try dsimp only at hSw); go_simp; try with_reducible rfl
                              (try simp only [Act.put, List.setIfInBounds_toArray, List.set_cons_zero, List.set_cons_succ])
                              refine man_take 9 106 (v := ?_) ⟨_, rfl, rfl⟩ (by kernel_rfl) (by kernel_rfl) (by kernel_rfl) (fun _ _ _ h => h) (by assumption) ?_ ?_
                              rotate_left
                              · intro oi ho; cases ho; refine ⟨by rfl, ?_⟩; intro w hSw; (try dsimp only at hSw); go_simp; try with_reducible rfl
                              (try simp only [Act.put, List.setIfInBounds_toArray, List.set_cons_zero, List.set_cons_succ])
                              refine man_take 10 107 (v := ?_) ⟨_, rfl, rfl⟩ (by kernel_rfl) (by kernel_rfl) (by kernel_rfl) (fun _ _ _ h => h) (by assumption) ?_ ?_
                              rotate_left
                              · intro oi ho; cases ho; refine ⟨by rfl, ?_⟩; intro w hSw; (try dsimp only at hSw); go_simp; try with_reducible rfl
                              (try simp only [Act.put, List.setIfInBounds_toArray, List.set_cons_zero, List.set_cons_succ])
                              refine man_take 11 108 (v := ?_) ⟨_, rfl, rfl⟩ (by kernel_rfl) (by kernel_rfl) (by kernel_rfl) (fun _ _ _ h => h) (by assumption) ?_ ?_
                              rotate_left
                              · intro oi ho; cases ho; refine ⟨by rfl, ?_⟩; intro w hSw; (try dsimp only at hSw); go_simp; try with_reducible rfl
                              (try simp only [Act.put, List.setIfInBounds_toArray, List.set_cons_zero, List.set_cons_succ])
                              refine man_take 12 109 (v := ?_) ⟨_, rfl, rfl⟩ (by kernel_rfl) (by kernel_rfl) (by kernel_rfl) (fun _ _ _ h => h) (by assumption) ?_ ?_
                              rotate_left
                              · intro oi ho; cases ho; refine ⟨by rfl, ?_⟩; intro w hSw; (try dsimp only at hSw); go_simp; try with_reducible rfl
                              (try simp only [Act.put, List.setIfInBounds_toArray, List.set_cons_zero, List.set_cons_succ])
                              refine man_take 13 110 (v := ?_) ⟨_, rfl, rfl⟩ (by kernel_rfl) (by kernel_rfl) (by kernel_rfl) (fun _ _ _ h => h) (by assumption) ?_ ?_
                              rotate_left
                              · intro oi ho; cases ho; refine ⟨by rfl, ?_⟩; intro w hSw; (try dsimp only at hSw); go_simp; try with_reducible rfl
                              (try simp only [Act.put, List.setIfInBounds_toArray, List.set_cons_zero, List.set_cons_succ])
                              refine man_take 14 111 (v := ?_) ⟨_, rfl, rfl⟩ (by kernel_rfl) (by kernel_rfl) (by kernel_rfl) (fun _ _ _ h => h) (by assumption) ?_ ?_
                              rotate_left
                              · intro oi ho; cases ho; refine ⟨by rfl, ?_⟩; intro w hSw; (try dsimp only at hSw); go_simp; try with_reducible rfl
                              (try simp only [Act.put, List.setIfInBounds_toArray, List.set_cons_zero, List.set_cons_succ])
                              refine man_take 15 112 (v := ?_) ⟨_, rfl, rfl⟩ (by kernel_rfl) (by kernel_rfl) (by kernel_rfl) (fun _ _ _ h => h) (by assumption) ?_ ?_
                              rotate_left
                              · intro oi ho; cases ho; refine ⟨by rfl, ?_⟩; intro w hSw; (try dsimp only at hSw); go_simp; try with_reducible rfl
                              (try simp only [Act.put, List.setIfInBounds_toArray, List.set_cons_zero, List.set_cons_succ])
                              refine man_take 16 113 (v := ?_) ⟨_, rfl, rfl⟩ (by kernel_rfl) (by kernel_rfl) (by kernel_rfl) (fun _ _ _ h => h) (by assumption) ?_ ?_
                              rotate_left
                              · intro oi ho; cases ho; refine ⟨by rfl, ?_⟩; intro w hSw; (try dsimp only at hSw); go_simp; try with_reducible rfl
                              (try simp only [Act.put, List.setIfInBounds_toArray, List.set_cons_zero, List.set_cons_succ])
                              refine man_run 17 rfl (by kernel_rfl) (fun K hK => ?_)
                              go_simp
                              refine hK.out _ _ ?_ (fun hHeld => ?_)
                              · (try dsimp only); first | exact HKEEP.out _ (World.grownBy.refl _ _) | exact HKEEP.out _ (HST.out _).2
                              clear hK K
                              (try simp only [Act.put, List.setIfInBounds_toArray, List.set_cons_zero, List.set_cons_succ])
                              refine man_take 18 115 (v := ?_) ⟨_, rfl, rfl⟩ (by kernel_rfl) (by kernel_rfl) (by kernel_rfl) (fun _ _ _ h => h) (by assumption) ?_ ?_
                              rotate_left
                              · intro oi ho; cases ho; refine ⟨by rfl, ?_⟩; intro w hSw; (try dsimp only at hSw); go_simp; try with_reducible rfl
                              (try simp only [Act.put, List.setIfInBounds_toArray, List.set_cons_zero, List.set_cons_succ])
                              refine man_take 19 116 (v := ?_) ⟨_, rfl, rfl⟩ (by kernel_rfl) (by kernel_rfl) (by kernel_rfl) (fun _ _ _ h => h) (by assumption) ?_ ?_
                              rotate_left
                              · intro oi ho; cases ho; refine ⟨by rfl, ?_⟩; intro w hSw; (try dsimp only at hSw); go_simp; try with_reducible rfl
                              (try simp only [Act.put, List.setIfInBounds_toArray, List.set_cons_zero, List.set_cons_succ])
                              refine man_take 20 117 (v := ?_) ⟨_, rfl, rfl⟩ (by kernel_rfl) (by kernel_rfl) (by kernel_rfl) (fun _ _ _ h => h) (by assumption) ?_ ?_
                              rotate_left
                              · intro oi ho; cases ho; refine ⟨by rfl, ?_⟩; intro w hSw; (try dsimp only at hSw); go_simp; try with_reducible rfl
                              (try simp only [Act.put, List.setIfInBounds_toArray, List.set_cons_zero, List.set_cons_succ])
                              refine man_take 21 118 (v := ?_) ⟨_, rfl, rfl⟩ (by kernel_rfl) (by kernel_rfl) (by kernel_rfl) (fun _ _ _ h => h) (by assumption) ?_ ?_
                              rotate_left
                              · intro oi ho; cases ho; refine ⟨by rfl, ?_⟩; intro w hSw; (try dsimp only at hSw); go_simp; try with_reducible rfl
                              (try simp only [Act.put, List.setIfInBounds_toArray, List.set_cons_zero, List.set_cons_succ])
                              refine man_take 22 119 (v := ?_) ⟨_, rfl, rfl⟩ (by kernel_rfl) (by kernel_rfl) (by kernel_rfl) (fun _ _ _ h => h) (by assumption) ?_ ?_
                              rotate_left
                              · intro oi ho; cases ho; refine ⟨by rfl, ?_⟩; intro w hSw; (try dsimp only at hSw); go_simp; try with_reducible rfl
                              (try simp only [Act.put, List.setIfInBounds_toArray, List.set_cons_zero, List.set_cons_succ])
                              refine man_skip 23 120 ⟨_, rfl, rfl⟩ (by kernel_rfl) (by kernel_rfl) (by kernel_rfl) (fun _ _ _ h => h) (by assumption) ?_ ?_
                              · intro oi ho; cases ho; rfl
                              (try simp only [Act.put, List.setIfInBounds_toArray, List.set_cons_zero, List.set_cons_succ])
                              refine man_skip 24 121 ⟨_, rfl, rfl⟩ (by kernel_rfl) (by kernel_rfl) (by kernel_rfl) (fun _ _ _ h => h) (by assumption) ?_ ?_
                              · intro oi ho; cases ho; rfl
                              (try simp only [Act.put, List.setIfInBounds_toArray, List.set_cons_zero, List.set_cons_succ])
                              refine man_skip 25 122 ⟨_, rfl, rfl⟩ (by kernel_rfl) (by kernel_rfl) (by kernel_rfl) (fun _ _ _ h => h) (by assumption) ?_ ?_
                              · intro oi ho; cases ho; rfl
                              (try simp only [Act.put, List.setIfInBounds_toArray, List.set_cons_zero, List.set_cons_succ])
                              refine man_take 26 123 (v := ?_) ⟨_, rfl, rfl⟩ (by kernel_rfl) (by kernel_rfl) (by kernel_rfl) (fun _ _ _ h => h) (by assumption) ?_ ?_
                              rotate_left
                              · intro oi ho; cases ho; refine ⟨by rfl, ?_⟩; intro w hSw; (try dsimp only at hSw); go_simp; try with_reducible rfl
                              (try simp only [Act.put, List.setIfInBounds_toArray, List.set_cons_zero, List.set_cons_succ])
                              refine man_take 27 124 (v := ?_) ⟨_, rfl, rfl⟩ (by kernel_rfl) (by kernel_rfl) (by kernel_rfl) (fun _ _ _ h => h) (by assumption) ?_ ?_
                              rotate_left
                              · intro oi ho; cases ho; refine ⟨by rfl, ?_⟩; intro w hSw; (try dsimp only at hSw); go_simp; try with_reducible rfl
                              (try simp only [Act.put, List.setIfInBounds_toArray, List.set_cons_zero, List.set_cons_succ])
                              refine man_run 28 rfl (by kernel_rfl) (fun K hK => ?_)
                              go_simp
                              refine hK.out _ _ ?_ (fun hHeld => ?_)
                              · (try dsimp only); first | exact HKEEP.out _ (World.grownBy.refl _ _) | exact HKEEP.out _ (HST.out _).2
                              clear hK K
                              refine wpAnyH_done (by kernel_rfl) ?_ _
                              have hA2 := (hA.put (by decide) HGX.out (HST.out true).1 (HST.out true).2).congr (F' := fun i d' => if i < x + y ∨ (i = x + y ∧ d' < d + 1) then F i d' || mkI cs x wv i d' else F i d') (fun i d' _ _ => step_eq (mk := mkI cs x wv) HV.out i d')
                              have hO2 := own_other hO (HST.out true).2 ⟨_, _, HYB.out, by decide⟩
                              have hO42 := own_other hO4 (HST.out true).2 ⟨_, _, HYB.out, by decide⟩
                              have hN2 := hN.put (HST.out true).2 (HGS0.out g (List.mem_of_getElem? HGX.out))
                              clear hA hO hO4 hN c0 c1 c2 hcx hcell hfr HKEEP HST hwr hw0 hw1 hw2
                              go_wp2_with fail
                              go_roundw
                              case rel => exact ⟨d + 1, by omega, by go_num, hA2, hO2, hO42, hN2⟩
                              case measure => simp [intOf]; omega
                            | false =>
                              have HV : Hid ((F (x + y) d || mkI cs x wv (x + y) d) = (q == (d : Int))) := Lib.hid (by rw [HMI.out, hfv]; unfold mkQ; rw [hq0]; rfl)
                              clear hfv
                              go_wp2_with fail
                              refine wp_region_held_drew (S := (fun w' => (w'.cell? ⟨w.heap.size, 0, none⟩ = some (.int .i64 x) ∧ w'.cell? ⟨w.heap.size, 1, none⟩ = some (.int .i64 b) ∧ w'.cell? ⟨w.heap.size, 2, none⟩ = some (.slice (some ⟨gA, oA, none⟩) (b * x) c)) ∧ w'.cell? ⟨gO, x + y, none⟩ = some (.slice (some ⟨g, 0, none⟩) 16 16))) (by kernel_rfl) ?_ (fun hHeld => ?_)
                              · (try dsimp only); first | exact HKEEP.out _ (World.grownBy.refl _ _) | exact HKEEP.out _ (HST.out _).2
                              refine man_take 0 97 (v := ?_) ⟨_, rfl, rfl⟩ (by kernel_rfl) (by kernel_rfl) (by kernel_rfl) (fun _ _ _ h => h) (by assumption) ?_ ?_
                              rotate_left
                              · intro oi ho; cases ho; refine ⟨by rfl, ?_⟩; intro w hSw; (try dsimp only at hSw); go_simp; try with_reducible rfl
                              (try simp only [Act.put, List.setIfInBounds_toArray, List.set_cons_zero, List.set_cons_succ])
                              refine man_take 1 98 (v := ?_) ⟨_, rfl, rfl⟩ (by kernel_rfl) (by kernel_rfl) (by kernel_rfl) (fun _ _ _ h => h) (by assumption) ?_ ?_
                              rotate_left
                              · intro oi ho; cases ho; refine ⟨by rfl, ?_⟩; intro w hSw; (try dsimp only at hSw); go_simp; try with_reducible rfl
                              (try simp only [Act.put, List.setIfInBounds_toArray, List.set_cons_zero, List.set_cons_succ])
                              refine man_take 2 99 (v := ?_) ⟨_, rfl, rfl⟩ (by kernel_rfl) (by kernel_rfl) (by kernel_rfl) (fun _ _ _ h => h) (by assumption) ?_ ?_
                              rotate_left
                              · intro oi ho; cases ho; refine ⟨by rfl, ?_⟩; intro w hSw; (try dsimp only at hSw); go_simp; try with_reducible rfl
                              (try simp only [Act.put, List.setIfInBounds_toArray, List.set_cons_zero, List.set_cons_succ])
                              refine man_take 3 100 (v := ?_) ⟨_, rfl, rfl⟩ (by kernel_rfl) (by kernel_rfl) (by kernel_rfl) (fun _ _ _ h => h) (by assumption) ?_ ?_
                              rotate_left
                              · intro oi ho; cases ho; refine ⟨by rfl, ?_⟩; intro w hSw; (try dsimp only at hSw); go_simp; try with_reducible rfl
                              (try simp only [Act.put, List.setIfInBounds_toArray, List.set_cons_zero, List.set_cons_succ])
                              refine man_take 4 101 (v := ?_) ⟨_, rfl, rfl⟩ (by kernel_rfl) (by kernel_rfl) (by kernel_rfl) (fun _ _ _ h => h) (by assumption) ?_ ?_
                              rotate_left
                              · intro oi ho; cases ho; refine ⟨by rfl, ?_⟩; intro w hSw; (try dsimp only at hSw); go_simp; try with_reducible rfl
                              (try simp only [Act.put, List.setIfInBounds_toArray, List.set_cons_zero, List.set_cons_succ])
                              refine man_take 5 102 (v := ?_) ⟨_, rfl, rfl⟩ (by kernel_rfl) (by kernel_rfl) (by kernel_rfl) (fun _ _ _ h => h) (by assumption) ?_ ?_
                              rotate_left
                              · intro oi ho; cases ho; refine ⟨by rfl, ?_⟩; intro w hSw; (try dsimp only at hSw); go_simp; try with_reducible rfl
                              (try simp only [Act.put, List.setIfInBounds_toArray, List.set_cons_zero, List.set_cons_succ])
                              refine man_take 6 103 (v := ?_) ⟨_, rfl, rfl⟩ (by kernel_rfl) (by kernel_rfl) (by kernel_rfl) (fun _ _ _ h => h) (by assumption) ?_ ?_
                              rotate_left
                              · intro oi ho; cases ho; refine ⟨by rfl, ?_⟩; intro w hSw; (try dsimp only at hSw); go_simp; try with_reducible rfl
                              (try simp only [Act.put, List.setIfInBounds_toArray, List.set_cons_zero, List.set_cons_succ])
                              refine man_take 7 104 (v := ?_) ⟨_, rfl, rfl⟩ (by kernel_rfl) (by kernel_rfl) (by kernel_rfl) (fun _ _ _ h => h) (by assumption) ?_ ?_
                              rotate_left
                              · intro oi ho; cases ho; refine ⟨by rfl, ?_⟩; intro w hSw; (try dsimp only at hSw); go_simp; try with_reducible rfl
                              (try simp only [Act.put, List.setIfInBounds_toArray, List.set_cons_zero, List.set_cons_succ])
                              refine man_take 8 105 (v := ?_) ⟨_, rfl, rfl⟩ (by kernel_rfl) (by kernel_rfl) (by kernel_rfl) (fun _ _ _ h => h) (by assumption) ?_ ?_
                              rotate_left
                              · intro oi ho; cases ho; refine ⟨by rfl, ?_⟩; intro w hSw; (try dsimp only at hSw); go_simp; try with_reducible rfl
                              (try simp only [Act.put, List.setIfInBounds_toArray, List.set_cons_zero, List.set_cons_succ])
                              refine man_take 9 106 (v := ?_) ⟨_, rfl, rfl⟩ (by kernel_rfl) (by kernel_rfl) (by kernel_rfl) (fun _ _ _ h => h) (by assumption) ?_ ?_
                              rotate_left
                              · intro oi ho; cases ho; refine ⟨by rfl, ?_⟩; intro w hSw; (try dsimp only at hSw); go_simp; try with_reducible rfl
                              (try simp only [Act.put, List.setIfInBounds_toArray, List.set_cons_zero, List.set_cons_succ])
                              refine man_take 10 107 (v := ?_) ⟨_, rfl, rfl⟩ (by kernel_rfl) (by kernel_rfl) (by kernel_rfl) (fun _ _ _ h => h) (by assumption) ?_ ?_
                              rotate_left
                              · intro oi ho; cases ho; refine ⟨by rfl, ?_⟩; intro w hSw; (try dsimp only at hSw); go_simp; try with_reducible rfl
                              (try simp only [Act.put, List.setIfInBounds_toArray, List.set_cons_zero, List.set_cons_succ])
                              refine man_take 11 108 (v := ?_) ⟨_, rfl, rfl⟩ (by kernel_rfl) (by kernel_rfl) (by kernel_rfl) (fun _ _ _ h => h) (by assumption) ?_ ?_
                              rotate_left
                              · intro oi ho; cases ho; refine ⟨by rfl, ?_⟩; intro w hSw; (try dsimp only at hSw); go_simp; try with_reducible rfl
                              (try simp only [Act.put, List.setIfInBounds_toArray, List.set_cons_zero, List.set_cons_succ])
                              refine man_take 12 109 (v := ?_) ⟨_, rfl, rfl⟩ (by kernel_rfl) (by kernel_rfl) (by kernel_rfl) (fun _ _ _ h => h) (by assumption) ?_ ?_
                              rotate_left
                              · intro oi ho; cases ho; refine ⟨by rfl, ?_⟩; intro w hSw; (try dsimp only at hSw); go_simp; try with_reducible rfl
                              (try simp only [Act.put, List.setIfInBounds_toArray, List.set_cons_zero, List.set_cons_succ])
                              refine man_take 13 110 (v := ?_) ⟨_, rfl, rfl⟩ (by kernel_rfl) (by kernel_rfl) (by kernel_rfl) (fun _ _ _ h => h) (by assumption) ?_ ?_
                              rotate_left
                              · intro oi ho; cases ho; refine ⟨by rfl, ?_⟩; intro w hSw; (try dsimp only at hSw); go_simp; try with_reducible rfl
                              (try simp only [Act.put, List.setIfInBounds_toArray, List.set_cons_zero, List.set_cons_succ])
                              refine man_take 14 111 (v := ?_) ⟨_, rfl, rfl⟩ (by kernel_rfl) (by kernel_rfl) (by kernel_rfl) (fun _ _ _ h => h) (by assumption) ?_ ?_
                              rotate_left
                              · intro oi ho; cases ho; refine ⟨by rfl, ?_⟩; intro w hSw; (try dsimp only at hSw); go_simp; try with_reducible rfl
                              (try simp only [Act.put, List.setIfInBounds_toArray, List.set_cons_zero, List.set_cons_succ])
                              refine man_take 15 112 (v := ?_) ⟨_, rfl, rfl⟩ (by kernel_rfl) (by kernel_rfl) (by kernel_rfl) (fun _ _ _ h => h) (by assumption) ?_ ?_
                              rotate_left
                              · intro oi ho; cases ho; refine ⟨by rfl, ?_⟩; intro w hSw; (try dsimp only at hSw); go_simp; try with_reducible rfl
                              (try simp only [Act.put, List.setIfInBounds_toArray, List.set_cons_zero, List.set_cons_succ])
                              refine man_take 16 113 (v := ?_) ⟨_, rfl, rfl⟩ (by kernel_rfl) (by kernel_rfl) (by kernel_rfl) (fun _ _ _ h => h) (by assumption) ?_ ?_
                              rotate_left
                              · intro oi ho; cases ho; refine ⟨by rfl, ?_⟩; intro w hSw; (try dsimp only at hSw); go_simp; try with_reducible rfl
                              (try simp only [Act.put, List.setIfInBounds_toArray, List.set_cons_zero, List.set_cons_succ])
                              refine man_run 17 rfl (by kernel_rfl) (fun K hK => ?_)
                              go_simp
                              refine hK.out _ _ ?_ (fun hHeld => ?_)
                              · (try dsimp only); first | exact HKEEP.out _ (World.grownBy.refl _ _) | exact HKEEP.out _ (HST.out _).2
                              clear hK K
                              (try simp only [Act.put, List.setIfInBounds_toArray, List.set_cons_zero, List.set_cons_succ])
                              refine man_take 18 115 (v := ?_) ⟨_, rfl, rfl⟩ (by kernel_rfl) (by kernel_rfl) (by kernel_rfl) (fun _ _ _ h => h) (by assumption) ?_ ?_
                              rotate_left
                              · intro oi ho; cases ho; refine ⟨by rfl, ?_⟩; intro w hSw; (try dsimp only at hSw); go_simp; try with_reducible rfl
                              (try simp only [Act.put, List.setIfInBounds_toArray, List.set_cons_zero, List.set_cons_succ])
                              refine man_take 19 116 (v := ?_) ⟨_, rfl, rfl⟩ (by kernel_rfl) (by kernel_rfl) (by kernel_rfl) (fun _ _ _ h => h) (by assumption) ?_ ?_
                              rotate_left
                              · intro oi ho; cases ho; refine ⟨by rfl, ?_⟩; intro w hSw; (try dsimp only at hSw); go_simp; try with_reducible rfl
                              (try simp only [Act.put, List.setIfInBounds_toArray, List.set_cons_zero, List.set_cons_succ])
                              refine man_take 20 117 (v := ?_) ⟨_, rfl, rfl⟩ (by kernel_rfl) (by kernel_rfl) (by kernel_rfl) (fun _ _ _ h => h) (by assumption) ?_ ?_
                              rotate_left
                              · intro oi ho; cases ho; refine ⟨by rfl, ?_⟩; intro w hSw; (try dsimp only at hSw); go_simp; try with_reducible rfl
                              (try simp only [Act.put, List.setIfInBounds_toArray, List.set_cons_zero, List.set_cons_succ])
                              refine man_take 21 118 (v := ?_) ⟨_, rfl, rfl⟩ (by kernel_rfl) (by kernel_rfl) (by kernel_rfl) (fun _ _ _ h => h) (by assumption) ?_ ?_
                              rotate_left
                              · intro oi ho; cases ho; refine ⟨by rfl, ?_⟩; intro w hSw; (try dsimp only at hSw); go_simp; try with_reducible rfl
                              (try simp only [Act.put, List.setIfInBounds_toArray, List.set_cons_zero, List.set_cons_succ])
                              refine man_take 22 119 (v := ?_) ⟨_, rfl, rfl⟩ (by kernel_rfl) (by kernel_rfl) (by kernel_rfl) (fun _ _ _ h => h) (by assumption) ?_ ?_
                              rotate_left
                              · intro oi ho; cases ho; refine ⟨by rfl, ?_⟩; intro w hSw; (try dsimp only at hSw); go_simp; try with_reducible rfl
                              (try simp only [Act.put, List.setIfInBounds_toArray, List.set_cons_zero, List.set_cons_succ])
                              refine man_take 23 120 (v := ?_) ⟨_, rfl, rfl⟩ (by kernel_rfl) (by kernel_rfl) (by kernel_rfl) (fun _ _ _ h => h) (by assumption) ?_ ?_
                              rotate_left
                              · intro oi ho; cases ho; refine ⟨by rfl, ?_⟩; intro w hSw; (try dsimp only at hSw); go_simp; try with_reducible rfl
                              (try simp only [Act.put, List.setIfInBounds_toArray, List.set_cons_zero, List.set_cons_succ])
                              refine man_take 24 121 (v := ?_) ⟨_, rfl, rfl⟩ (by kernel_rfl) (by kernel_rfl) (by kernel_rfl) (fun _ _ _ h => h) (by assumption) ?_ ?_
                              rotate_left
                              · intro oi ho; cases ho; refine ⟨by rfl, ?_⟩; intro w hSw; (try dsimp only at hSw); go_simp; try with_reducible rfl
                              (try simp only [Act.put, List.setIfInBounds_toArray, List.set_cons_zero, List.set_cons_succ])
                              refine man_take 25 122 (v := ?_) ⟨_, rfl, rfl⟩ (by kernel_rfl) (by kernel_rfl) (by kernel_rfl) (fun _ _ _ h => h) (by assumption) ?_ ?_
                              rotate_left
                              · intro oi ho; cases ho; refine ⟨by rfl, ?_⟩; intro w hSw; (try dsimp only at hSw); go_simp; try with_reducible rfl
                              (try simp only [Act.put, List.setIfInBounds_toArray, List.set_cons_zero, List.set_cons_succ])
                              refine man_take 26 123 (v := ?_) ⟨_, rfl, rfl⟩ (by kernel_rfl) (by kernel_rfl) (by kernel_rfl) (fun _ _ _ h => h) (by assumption) ?_ ?_
                              rotate_left
                              · intro oi ho; cases ho; refine ⟨by rfl, ?_⟩; intro w hSw; (try dsimp only at hSw); go_simp; try with_reducible rfl
                              (try simp only [Act.put, List.setIfInBounds_toArray, List.set_cons_zero, List.set_cons_succ])
                              refine man_take 27 124 (v := ?_) ⟨_, rfl, rfl⟩ (by kernel_rfl) (by kernel_rfl) (by kernel_rfl) (fun _ _ _ h => h) (by assumption) ?_ ?_
                              rotate_left
                              · intro oi ho; cases ho; refine ⟨by rfl, ?_⟩; intro w hSw; (try dsimp only at hSw); go_simp; try with_reducible rfl
                              (try simp only [Act.put, List.setIfInBounds_toArray, List.set_cons_zero, List.set_cons_succ])
                              refine man_run 28 rfl (by kernel_rfl) (fun K hK => ?_)
                              go_simp
                              refine hK.out _ _ ?_ (fun hHeld => ?_)
                              · (try dsimp only); first | exact HKEEP.out _ (World.grownBy.refl _ _) | exact HKEEP.out _ (HST.out _).2
                              clear hK K
                              refine wpAnyH_done (by kernel_rfl) ?_ _
                              have hA2 := (hA.put (by decide) HGX.out (HST.out (q == (d : Int))).1 (HST.out (q == (d : Int))).2).congr (F' := fun i d' => if i < x + y ∨ (i = x + y ∧ d' < d + 1) then F i d' || mkI cs x wv i d' else F i d') (fun i d' _ _ => step_eq (mk := mkI cs x wv) HV.out i d')
                              have hO2 := own_other hO (HST.out (q == (d : Int))).2 ⟨_, _, HYB.out, by decide⟩
                              have hO42 := own_other hO4 (HST.out (q == (d : Int))).2 ⟨_, _, HYB.out, by decide⟩
                              have hN2 := hN.put (HST.out (q == (d : Int))).2 (HGS0.out g (List.mem_of_getElem? HGX.out))
                              clear hA hO hO4 hN c0 c1 c2 hcx hcell hfr HKEEP HST hwr hw0 hw1 hw2
                              go_wp2_with fail
                              go_roundw
                              case rel => exact ⟨d + 1, by omega, by go_num, hA2, hO2, hO42, hN2⟩
                              case measure => simp [intOf]; omega
                        · obtain rfl : d = 16 := by omega
                          go_wp2_with fail
                          go_roundw
                          case rel => exact ⟨y + 1, by omega, by go_num, hA.congr (fun i d' _ hd' => by
                            by_cases e : i < x + (y + 1)
                            · rw [if_pos e, if_pos (by omega)]
                            · rw [if_neg e, if_neg (by omega)]), hO, hO4, hN⟩
                          case measure => simp [intOf]; omega
                    · obtain rfl : y = b := by omega
                      clear hrA hbM hrP
                      replace hA := hA.congr (F' := fun i d => F i d || mkI cs x wv i d) (fun i d hi _ => by rw [if_pos hi])
                      go_wp2_with fail
                      refine (next_any l x np w2.heap.size x w2.heap.size _ HI.out.1 ha (by omega) hO).mono ?_
                      rintro e w6 ⟨l', r, rfl, hO6, hg6, hl6, hd6, h1, h2⟩
                      obtain ⟨ys, hyB⟩ := blk_of_own hO
                      have hA6 := hA.other hg6 ⟨_, _, hyB, by decide, by decide⟩
                      have hN6 := hN.put hg6 HGS1.out
                      have HK := Lib.hid HI.out.2.2
                      have HNX := Lib.hid (show Dig np l' ∧ (r = true → valN np l' = valN np l + 1) ∧ (r = false → valN np l + 1 = ((np ^ x : Nat) : Int)) from ⟨hd6, h1, h2⟩)
                      have HVL := Lib.hid (valN_lt HI.out.1).2
                      clear hA hO hN hyB hg6 h1 h2 hd6 hO4
                      go_wp2_with fail
                      go_roundg (gk - 1)
                      case measure =>
                        have h1 := HK.out
                        have h2 := HVL.out
                        rw [hll] at h2
                        omega
                      case rel =>
                        have h3 := HK.out
                        have h2 := HVL.out
                        rw [hll] at h2
                        refine ⟨l', _, r, rfl, hl6, Lib.hid ⟨HNX.out.1, fun e => ?_, fun e => ?_⟩, hA6, hO6, hN6⟩
                        · rw [HNX.out.2.1 e]
                          exact ⟨HMF.out, by omega⟩
                        · rw [← HNX.out.2.2 e]
                          exact HMF.out
            · have HNO := Lib.hid hok
              clear hok
              go_wp2_with fail
              clear hNs
              refine (next_any l a np w2.heap.size a w2.heap.size _ HI.out.1 ha (by omega) hO).mono ?_
              rintro e w6 ⟨l', r, rfl, hO6, hg6, hl6, hd6, h1, h2⟩
              obtain ⟨ys, hyB⟩ := blk_of_own hO
              have hA6 := hA.other hg6 ⟨_, _, hyB, by decide, by decide⟩
              have hN6 := hN.put hg6 HGS1.out
              have HMF := Lib.hid (HMS.out l F HI.out.2.1 hll HI.out.1 HNO.out)
              have HK := Lib.hid HI.out.2.2
              have HNX := Lib.hid (show Dig np l' ∧ (r = true → valN np l' = valN np l + 1) ∧ (r = false → valN np l + 1 = ((np ^ a : Nat) : Int)) from ⟨hd6, h1, h2⟩)
              have HVL := Lib.hid (valN_lt HI.out.1).2
              clear hA hO hN hyB hg6 h1 h2 hd6 hO4
              go_wp2_with fail
              go_roundg (gk - 1)
              case measure =>
                have h1 := HK.out
                have h2 := HVL.out
                rw [hll] at h2
                omega
              case rel =>
                have h3 := HK.out
                have h2 := HVL.out
                rw [hll] at h2
                refine ⟨l', F, r, rfl, hl6, Lib.hid ⟨HNX.out.1, fun e => ?_, fun e => ?_⟩, hA6, hO6, hN6⟩
                · rw [HNX.out.2.1 e]
                  exact ⟨HMF.out, by omega⟩
                · rw [← HNX.out.2.2 e]
                  exact HMF.out
          | false =>
            have HMF := Lib.hid (HI.out.2.2 rfl)
            obtain ⟨hrA, hbM, hrP⟩ := HGA.out _ hN
            have HBM := Lib.hid hbM
            obtain ⟨c0, c1, c2⟩ := hbM.cell3
            have HLE := Lib.hid (fun x (h : x < a) => HME.out F x HMF.out h)
            have HLP := Lib.hid (fun y (h : y < b) => HMQ.out F y HMF.out h)
            have HB0 : Hid (Below w.heap.size w wr) := Lib.hid (((HS3.out.below)).trans (hN.below (fun k hk => by
              rcases List.mem_cons.1 hk with e | e
              · omega
              · have := HLT.out _ e
                omega) (by omega)))
            have hBs := HB0.out.size
            have HA := Lib.hid hA
            clear hA hO hN hrA hbM hrP HI
            go_wp2_with fail
            generalize wr = w9 at *
            go_loopw [20, 22] (fun ev xv wz => ∃ (x : Nat) (v : Value), x ≤ a ∧ xv = .int .i64 x ∧ ev = v ∧ LL wz w9.heap.size 22 3 v x (chLs a b cs 0 x) ∧ Below w9.heap.size w9 wz) (fun _ xv _ => a - (intOf xv).toNat)
            case atStart => exact ⟨0, _, Nat.zero_le _, rfl, rfl, LL.nil _ _ _ _, Below.refl _ _⟩
            case round =>
              clear c0 c1 c2
              obtain ⟨x, v, hx, rfl, rfl, hL, hB⟩ := hrel
              obtain ⟨c0, c1, c2⟩ := (HBM.out.keep hB).cell3
              by_cases hxa : x < a
              · have hA := HA.out.below hB
                obtain ⟨g, hgx⟩ : ∃ g, gs[x]? = some g := ⟨_, List.getElem?_eq_getElem (by rw [hA.len]; omega)⟩
                have hcx := hA.outer.cellAt x (by omega)
                rw [List.getElem?_map, hgx, Option.map_some] at hcx
                have HCALL := Lib.hid (listed_any g (F x) wr (rd_of_own (hA.row x g hgx)))
                rw [HLE.out x hxa] at HCALL
                have HS := Lib.hid (chLs_succ a b cs 0 x)
                have hll16 := chL_len (a := a) (b := b) (cs := cs) 0 x 16
                have HLL := Lib.hid hL
                have HBB := Lib.hid hB
                have hxab : x < a + b := by omega
                have hxab2 : (x : Int) < (a : Int) + (b : Int) := by omega
                clear hA hgx hL hB
                generalize chL a b cs 0 x 16 = l' at *
                go_wp2_with fail
                refine HCALL.out.mono ?_
                rintro e wz ⟨Al, kl, rfl, hown, hbz⟩
                have hVz := HLL.out.below hbz
                have hszb := HBB.out.size
                have HBz := Lib.hid (HBB.out.trans (hbz.mono hszb))
                have hszo := HBz.out.size
                have hown2 := own_base hown (B := w9.heap.size) hszb
                obtain ⟨xs, hxo, hpush⟩ := (hVz.below ((Below.refl _ _).alloc (Nat.le_refl _) (.cells #[.slice Al l'.length kl] 22))).open (by decide)
                have hownA := hown2.alloc (.cells #[.slice Al l'.length kl] 22)
                obtain ⟨A6, k6, rfl⟩ := hVz.shape
                clear hown hown2 hbz hVz HCALL HLL c0 c1 c2 hcx
                go_wp2_with (at_builtin; go_loud (refine wpList_app _ rfl (.tmp 131) (.tmp 137) 31 rfl w9.heap.size 22 iL (.slice none 0 0) 24 Try.underlying31 hiL hzL hsL hbL rfl (by decide) (.slice A6 x k6) x _ rfl hxo wz.heap.size (.slice Al l'.length kl) rfl (new_cell wz _ _) rfl (by omega) (size_alloc_le hszo _) ?_))
                intro g' cp' w5 hown5 hgr5
                have hV5 := hpush w5 _ Al kl l' hownA hown5 hgr5
                have hB5 := (HBz.out.alloc hszo _).grown hgr5 (size_alloc_le hszo _) (fun kk hkk => (hxo.lt kk hkk).1)
                clear hpush hownA hxo hgr5 hown5
                go_wp2_with fail
                go_roundw
                case rel => exact ⟨x + 1, _, by omega, by go_num, rfl, by rw [HS.out]; exact hV5, hB5⟩
                case measure => simp [intOf]; omega
              · obtain rfl : x = a := by omega
                have HLE0 := Lib.hid hL
                have HB9 := Lib.hid (HB0.out.trans (hB.mono hBs))
                have HBM2 := Lib.hid (HBM.out.keep hB)
                have HA2 := Lib.hid (HA.out.below hB)
                obtain ⟨AE, kE, rfl⟩ := hL.shape
                clear hL hB HBM HA
                go_wp2_with fail
                have hBs9 := HB9.out.size
                clear c0 c1 c2
                generalize wr = w10 at *
                go_loopw [21, 23] (fun ev yv wz => ∃ (y : Nat) (v : Value), y ≤ b ∧ yv = .int .i64 y ∧ ev = v ∧ LL wz w10.heap.size 22 3 v y (chLs x b cs 1 y) ∧ Below w10.heap.size w10 wz) (fun _ yv _ => b - (intOf yv).toNat)
                case atStart => exact ⟨0, _, Nat.zero_le _, rfl, rfl, LL.nil _ _ _ _, Below.refl _ _⟩
                case round =>
                  obtain ⟨y, v, hy, rfl, rfl, hL, hB⟩ := hrel
                  obtain ⟨c0, c1, c2⟩ := (HBM2.out.keep hB).cell3
                  by_cases hyb : y < b
                  · have hA := HA2.out.below hB
                    obtain ⟨g, hgx⟩ : ∃ g, gs[x + y]? = some g := ⟨_, List.getElem?_eq_getElem (by rw [hA.len]; omega)⟩
                    have hcx := hA.outer.cellAt (x + y) (by omega)
                    rw [List.getElem?_map, hgx, Option.map_some] at hcx
                    have HCALL := Lib.hid (listed_any g (F (x + y)) wr (rd_of_own (hA.row (x + y) g hgx)))
                    rw [HLP.out y hyb] at HCALL
                    have HS := Lib.hid (chLs_succ x b cs 1 y)
                    have hll16 := chL_len (a := x) (b := b) (cs := cs) 1 y 16
                    have HLL := Lib.hid hL
                    have HBB := Lib.hid hB
                    have hxab : x + y < x + b := by omega
                    have hw0 : 0 ≤ (x : Int) + (y : Int) := by omega
                    have hw1 : ((x : Int) + (y : Int)).toNat = x + y := by omega
                    have hw2 : (x : Int) + (y : Int) < (x : Int) + (b : Int) := by omega
                    clear hA hgx hL hB
                    generalize chL x b cs 1 y 16 = l' at *
                    go_wp2_with fail
                    refine HCALL.out.mono ?_
                    rintro e wz ⟨Al, kl, rfl, hown, hbz⟩
                    have hVz := HLL.out.below hbz
                    have hszb := HBB.out.size
                    have HBz := Lib.hid (HBB.out.trans (hbz.mono hszb))
                    have hszo := HBz.out.size
                    have hown2 := own_base hown (B := w10.heap.size) hszb
                    obtain ⟨xs, hxo, hpush⟩ := (hVz.below ((Below.refl _ _).alloc (Nat.le_refl _) (.cells #[.slice Al l'.length kl] 22))).open (by decide)
                    have hownA := hown2.alloc (.cells #[.slice Al l'.length kl] 22)
                    obtain ⟨A6, k6, rfl⟩ := hVz.shape
                    clear hown hown2 hbz hVz HCALL HLL c0 c1 c2 hcx hw0 hw1 hw2
                    go_wp2_with (at_builtin; go_loud (refine wpList_app _ rfl (.tmp 145) (.tmp 154) 31 rfl w10.heap.size 22 iL (.slice none 0 0) 24 Try.underlying31 hiL hzL hsL hbL rfl (by decide) (.slice A6 y k6) y _ rfl hxo wz.heap.size (.slice Al l'.length kl) rfl (new_cell wz _ _) rfl (by omega) (size_alloc_le hszo _) ?_))
                    intro g' cp' w5 hown5 hgr5
                    have hV5 := hpush w5 _ Al kl l' hownA hown5 hgr5
                    have hB5 := (HBz.out.alloc hszo _).grown hgr5 (size_alloc_le hszo _) (fun kk hkk => (hxo.lt kk hkk).1)
                    clear hpush hownA hxo hgr5 hown5
                    go_wp2_with fail
                    go_roundw
                    case rel => exact ⟨y + 1, _, by omega, by go_num, rfl, by rw [HS.out]; exact hV5, hB5⟩
                    case measure => simp [intOf]; omega
                  · obtain rfl : y = b := by omega
                    obtain ⟨AQ, kQ, rfl⟩ := hL.shape
                    have HL2 := Lib.hid hL
                    have HB2 := Lib.hid hB
                    clear hL hB
                    go_wp2_with fail
                    go_ret3
                    exact ⟨AE, AQ, kE, kQ, rfl, (HLE0.out.below HB2.out).rebase hBs, HL2.out.rebase hBs9, HB9.out.trans (HB2.out.mono hBs9)⟩
  · exact absurd HFF.out hno
end Go.Proofs.Ytefeghpglacghaa
