/- raddleref15.First gives the least thread colours that fit an image, or none: all colours of the ends are tried. -/
import Derived.Test.YtefeghpglacghaaRPicks15z
import Derived.Test.YtefeghpglacghaaFirstFz
import Derived.Deep.LoopGhost
namespace Go.Proofs.Ytefeghpglacghaa
open Go.RowKit

theorem val_cs {a b : Nat} {cs : List Int} (hl : cs.length = b * a) (hf : fineL cs = true) : Val a b cs := fun x y hx hy => by
  have hlt : y * a + x < cs.length := by rw [hl]; exact Pl.cell_lt hx hy
  refine ⟨fineL_get hf hlt, ?_⟩
  rw [List.getD_eq_getElem?_getD, List.getElem?_eq_getElem hlt]
  exact List.getElem_mem hlt
theorem madeI (a : Nat) : (madeCells #[Value.int .i64 0] a).toList = (List.replicate a (0 : Int)).map (Value.int .i64) := by
  rw [toList_madeCells_one]; simp

set_option linter.unusedVariables false in
set_option maxHeartbeats 4000000 in
set_option maxRecDepth 100000 in
theorem rfirst_ok (a b : Nat) (cs : List Int) (gA oA c : Nat) (w : World) (ha1 : 1 ≤ a) (ha : a ≤ 64) (hb1 : 1 ≤ b) (hb : b ≤ 64) (hl : cs.length = b * a) (hf : fineL cs = true) (h0 : chkI ⟨a, b, cs⟩ = 0)
    (hr : Rd w (some ⟨gA, oA, none⟩) (b * a) (cs.map (Value.int .i64))) :
    Calls Try.prog 12 #[.agg #[.int .i64 a, .int .i64 b, .slice (some ⟨gA, oA, none⟩) (b * a) c]] w fun e w' => ∃ (p q : List Int) (er : Int) (A1 A2 : Option Addr) (c1 c2 : Nat),
      e = .returned (.tuple #[.slice A1 p.length c1, .slice A2 q.length c2, .int .i64 er]) ∧ FirstR a b cs p q er ∧
      w'.ownsRow w.heap.size 3 1 (.slice A1 p.length c1) p.length (p.map (Value.int .i64)) ∧ w'.ownsRow w.heap.size 3 1 (.slice A2 q.length c2) q.length (q.map (Value.int .i64)) ∧ Below w.heap.size w w' := by
  obtain ⟨i0, hi0, hz0, hz1, hz2⟩ := info_parts Try.infoI
  have hba : b * a ≤ 64 * 64 := Nat.mul_le_mul hb ha
  have hV := val_cs hl hf
  have S0 := ((St.start w).addRd hr).box #[.int .i64 a, .int .i64 b, .slice (some ⟨gA, oA, none⟩) (b * a) c] 24
  simp only [List.nil_append, List.cons_append] at S0
  obtain ⟨c0, c1, c2⟩ := (S0.blk 1 rfl).cell3
  have hBz := S0.size
  have HT := Lib.hid (fun W h => rcheckI_to ⟨a, b, cs⟩ (some ⟨gA, oA, none⟩) (b * a) c W h0 h (by omega))
  have HPL := Lib.hid (fun W h => palette_any a b cs gA oA (b * a) c W h (by omega))
  have hpos := pal_pos (cs := cs)
  have hle := pal_len (cs := cs)
  have HTS := Lib.hid (Tried.start (a := a) (b := b) (cs := cs))
  have HTN := Lib.hid (fun l l2 => Tried.next (a := a) (b := b) (cs := cs) (l := l) (l2 := l2))
  have HTL := Lib.hid (fun l => Tried.last (l := l) hV)
  have HTD := Lib.hid (fun l => Tried.done (l := l) hV)
  have HCO := Lib.hid (fun l gP oP cP gL cL W h1 h2 h3 => colour_any (pal cs) l gP oP cP gL 0 cL (pal cs).length a W h1 h2 ha (by omega) h3)
  have HPK := Lib.hid (fun wv gW oW cW W h1 h2 => picks_any a b cs wv (some ⟨gA, oA, none⟩) gW oW c cW W ha hb hV h1 h2)
  simp only at HT
  clear hr hV h0 hf hl
  obtain ⟨np, hnp⟩ : ∃ np, (pal cs).length = np := ⟨_, rfl⟩
  rw [hnp] at HPL hpos hle HTN HTL HTD HCO
  have HNP := Lib.hid hnp
  clear hnp
  go_enter Try.func12, Try.ntmps12
  go_wp2_with fail
  refine (HT.out _ (S0.rd 0 rfl)).mono ?_
  rintro e w1 ⟨rfl, hb1'⟩
  have S1 := S0.keep hb1'
  clear c0 c1 c2 HT hb1' S0
  obtain ⟨c0, c1, c2⟩ := (S1.blk 1 rfl).cell3
  go_wp2_with fail
  refine (HPL.out _ (S1.rd 0 rfl)).mono ?_
  rintro e w2 ⟨AP, cP, rfl, hOP, hb2⟩
  have hrp := rd_of_own hOP
  obtain ⟨gP, oP, hAP, _, _⟩ := hrp.at_ hpos
  subst hAP
  have S2 := (S1.keep hb2).addRd hrp
  simp only [List.nil_append, List.cons_append] at S2
  clear c0 c1 c2 HPL hOP hrp hb2 S1
  obtain ⟨c0, c1, c2⟩ := (S2.blk 1 rfl).cell3
  go_wp2_with (at_make; go_loud (refine wpList_make_full _ rfl _ _ 22 rfl w2.heap.size 3 i0 (.int .i64 0) 1 Try.underlying22 hi0 hz0 hz1 _ _ _ _ a rfl rfl ?c1 ?c1' ?c2 ?c3 ?c4 ?_))
  case c1 => rfl
  case c1' => rfl
  case c2 => rw [hz2]; omega
  case c3 => unfold maxLen; omega
  case c4 => exact Nat.le_refl _
  intro w3 hO3 hg3
  rw [madeI] at hO3
  have hB3 : Below w2.heap.size w2 w3 := (Below.refl _ _).grown hg3 (Nat.le_refl _) (fun _ h => by cases h)
  clear hg3 c0 c1 c2
  have HS2 := Lib.hid S2
  have HS2z := S2.size
  clear S2
  go_wp2_with fail
  go_loopg [] (np ^ a) (fun k wr => ∃ l : List Int, l.length = a ∧ Hid (Dig np l ∧ Tried a b cs l ∧ (k : Int) + valN np l = ((np ^ a : Nat) : Int)) ∧ wr.ownsRow w2.heap.size 3 1 (.slice (some ⟨w2.heap.size, 0, none⟩) a a) a (l.map (Value.int .i64)) ∧ Below w2.heap.size w2 wr)
  case atStart => exact ⟨List.replicate a 0, by simp, Lib.hid ⟨Dig.zeros a hpos, HTS.out, by rw [valN_zeros (fun i hi => by rw [List.getD_eq_getElem?_getD, List.getElem?_eq_getElem hi]; simp)]; omega⟩, hO3, hB3⟩
  case round =>
    clear hO3 hB3
    obtain ⟨l, hll, HI, hO, hB⟩ := hrel
    have S := HS2.out.keep hB
    have hBs := hB.size
    go_wp2_with fail
    refine (HCO.out l gP oP cP w2.heap.size a _ (S.rd 2 rfl) (rd_of_own hO) HI.out.1).mono ?_
    rintro e w4 ⟨A4, c4, rfl, hO4, hb4⟩
    have HB4 := Lib.hid (hB.trans (hb4.mono hBs))
    have hOl := own_below hO hb4
    have hrw := rd_of_own hO4
    obtain ⟨gW, oW, hAW, _, _⟩ := hrw.at_ ha1
    subst hAW
    have hBz4 := HB4.out.size
    clear S hO hB
    have S := HS2.out.keep HB4.out
    obtain ⟨c0, c1, c2⟩ := (S.blk 1 rfl).cell3
    go_wp2_with fail
    refine (HPK.out _ gW oW c4 _ (S.rd 0 rfl) hrw).mono ?_
    rintro e w5 ⟨hb5, hres⟩
    have HB5 := Lib.hid (HB4.out.trans (hb5.mono hBz4))
    have hOl5 := own_below hOl hb5
    have hO45 := own_below hO4 hb5
    have hBz5 := HB5.out.size
    clear S hOl hO4 hrw c0 c1 c2
    rcases hres with ⟨hok, A5, c5, rfl, hO5⟩ | ⟨hok, rfl⟩
    · have HF := Lib.hid (HTD.out l HI.out.2.1 hll HI.out.1 hok)
      have HLW := Lib.hid ((colL_len (pal cs) l).trans hll)
      have HLQ := Lib.hid (picksL_len cs a (colL (pal cs) l) b)
      clear hok
      generalize picksL cs a (colL (pal cs) l) b = ql at *
      generalize colL (pal cs) l = pl at *
      go_wp2_with fail
      go_ret3
      have hbw := Nat.le_trans HS2z hBs
      exact ⟨pl, ql, 0, _, A5, _, c5, by rw [HLW.out, HLQ.out]; rfl, HF.out, by rw [HLW.out]; exact own_base hO45 hbw, by rw [HLQ.out]; exact own_base hO5 (Nat.le_trans HS2z hBz4), (HS2.out.keep HB5.out).below⟩
    · have HNO := Lib.hid hok
      clear hok
      have S := HS2.out.keep HB5.out
      obtain ⟨c0, c1, c2⟩ := (S.blk 1 rfl).cell3
      go_wp2_with fail
      refine (next_any l a np w2.heap.size a w2.heap.size _ HI.out.1 ha (by omega) hOl5).mono ?_
      rintro e w6 ⟨l', r, rfl, hO6, hg6, hl6, hd6, h1, h2⟩
      have HB6 := Lib.hid (HB5.out.grown hg6 hBz5 (fun k hk => by cases hk; exact Nat.le_refl _))
      cases r with
      | true =>
        have HN := Lib.hid (h1 rfl)
        have HD6 := Lib.hid hd6
        clear h1 h2 hd6 S c0 c1 c2
        go_wp2_with fail
        go_roundg (gk - 1)
        case measure => 
          have h3 := (valN_lt HD6.out).2
          have h4 := HI.out.2.2
          rw [HN.out, hl6] at h3
          omega
        case rel => 
          refine ⟨l', hl6, Lib.hid ⟨HD6.out, HTN.out l l' HI.out.2.1 hll HI.out.1 HNO.out HN.out, ?_⟩, hO6, HB6.out⟩
          have h3 := (valN_lt HD6.out).2
          have h4 := HI.out.2.2
          have h5 := HN.out
          rw [h5, hl6] at h3
          omega
      | false =>
        have HF := Lib.hid (HTL.out l HI.out.2.1 hll HI.out.1 HNO.out (h2 rfl))
        clear h1 h2 hd6 S c0 c1 c2
        go_wp2_with fail
        go_ret3
        exact ⟨[], [], 6, none, none, 0, 0, rfl, HF.out, World.ownsRow_nil _ _ _ _, World.ownsRow_nil _ _ _ _, (HS2.out.keep HB6.out).below⟩

set_option linter.unusedVariables false in
set_option maxHeartbeats 4000000 in
set_option maxRecDepth 100000 in
theorem rfirst_bad (m : Im) (A : Option Addr) (n c : Nat) (w : World) (h0 : chkI m ≠ 0) (hr : Rd w A n (m.c.map (Value.int .i64))) (hn : n ≤ 1048576) :
    Calls Try.prog 12 #[.agg #[.int .i64 m.w, .int .i64 m.h, .slice A n c]] w fun e w' => e = .returned (.tuple #[.slice none 0 0, .slice none 0 0, .int .i64 8]) ∧ Below w.heap.size w w' := by
  have S0 := ((St.start w).addRd hr).box #[.int .i64 m.w, .int .i64 m.h, .slice A n c] 24
  simp only [List.nil_append, List.cons_append] at S0
  obtain ⟨c0, c1, c2⟩ := (S0.blk 1 rfl).cell3
  have HT := Lib.hid (fun W h => rcheckI_to m A n c W (chkI_ne h0) h hn)
  clear hr h0
  go_enter Try.func12, Try.ntmps12
  go_wp2_with fail
  refine (HT.out _ (S0.rd 0 rfl)).mono ?_
  rintro e w1 ⟨rfl, hb1⟩
  have S1 := S0.keep hb1
  clear c0 c1 c2
  obtain ⟨c0, c1, c2⟩ := (S1.blk 1 rfl).cell3
  go_wp2_with fail
  refine (HT.out _ (S1.rd 0 rfl)).mono ?_
  rintro e w2 ⟨rfl, hb2⟩
  have S2 := S1.keep hb2
  clear c0 c1 c2
  go_wp2_with fail
  go_ret3
  exact ⟨rfl, S2.below⟩
theorem rfirst_any (m : Im) (A : Option Addr) (n c : Nat) (w : World) (hr : Rd w A n (m.c.map (Value.int .i64))) (hn : n ≤ 1048576) :
    Calls Try.prog 12 #[.agg #[.int .i64 m.w, .int .i64 m.h, .slice A n c]] w fun e w' => ∃ (p q : List Int) (er : Int) (A1 A2 : Option Addr) (c1 c2 : Nat),
      e = .returned (.tuple #[.slice A1 p.length c1, .slice A2 q.length c2, .int .i64 er]) ∧ FirstI m p q er ∧
      w'.ownsRow w.heap.size 3 1 (.slice A1 p.length c1) p.length (p.map (Value.int .i64)) ∧ w'.ownsRow w.heap.size 3 1 (.slice A2 q.length c2) q.length (q.map (Value.int .i64)) ∧ Below w.heap.size w w' := by
  have hln : m.c.length = n := by simpa using hr.len
  by_cases h0 : chkI m = 0
  · obtain ⟨W, H, cs⟩ := m
    obtain ⟨a, b, h1, h2, ha1, ha, hb1, hb, hl, hf⟩ := chkI_zero h0
    simp only at h1 h2 hl hf hln hr
    subst h1 h2
    obtain rfl : n = b * a := by omega
    obtain ⟨gA, oA, hA, _, _⟩ := hr.at_ (Nat.mul_pos hb1 ha1)
    subst hA
    refine (rfirst_ok a b cs gA oA c w ha1 ha hb1 hb hl hf h0 hr).mono ?_
    rintro e w' ⟨p, q, er, A1, A2, c1, c2, h1, h2, h3, h4, h5⟩
    exact ⟨p, q, er, A1, A2, c1, c2, h1, .inr ⟨h0, h2⟩, h3, h4, h5⟩
  · refine (rfirst_bad m A n c w h0 hr hn).mono ?_
    rintro e w' ⟨h1, h5⟩
    exact ⟨[], [], 8, none, none, 0, 0, h1, .inl ⟨h0, rfl, rfl, rfl⟩, World.ownsRow_nil _ _ _ _, World.ownsRow_nil _ _ _ _, h5⟩
end Go.Proofs.Ytefeghpglacghaa
