/- The law ColourReads, walked: it answers true and turns nothing that was there. -/
import Derived.Test.YtpfonniepinjnaaDoorIParse
import Derived.Test.YtpfonniepinjnaaDoorRIParse
import Derived.Test.YtpfonniepinjnaaDoorISame
namespace Go.Proofs.YtpfonniepinjnaaDoor
open Go.RowKit

theorem parseI_small (s : List UInt8) : (parseI s).1.c.length ≤ 4096 := by
  unfold parseI
  split
  · unfold imgL
    split
    · rename_i h; exact chkI_small h.2
    · exact Nat.zero_le _
  · exact Nat.zero_le _
theorem psameI_self (m : Im) (hs : m.c.length ≤ 4200) (A A2 : Option Addr) (n c n2 c2 : Nat) (w : World) (hr : Rd w A n (m.c.map (Value.int .i64))) (hr2 : Rd w A2 n2 (m.c.map (Value.int .i64))) :
    Calls Tryd.prog 8 #[.agg #[.int .i64 m.w, .int .i64 m.h, .slice A n c], .agg #[.int .i64 m.w, .int .i64 m.h, .slice A2 n2 c2]] w fun e w' => e = .returned (.bool true) ∧ Below w.heap.size w w' := by
  have hl : m.c.length = n := by simpa using hr.len
  have h := rsameI_any m m A A2 n c n2 c2 w hr hr2 (by omega)
  rw [show sameI m m = true from sameI_iff.2 rfl] at h
  exact h
set_option maxHeartbeats 4000000 in
set_option maxRecDepth 100000 in
theorem reads_walk (s : List UInt8) (w : World) : Calls Tryd.prog 3 #[str s] w fun e w' => e = .returned (.bool true) ∧ Below w.heap.size w w' := by
  have hsz := size_list s
  by_cases h5 : 5000 < s.length
  · have hd : decide ((5000 : Int) < (s.length : Int)) = true := by simp; omega
    go_enter Tryd.func3, Tryd.ntmps3
    go_wp2_with fail
    go_ret
    exact ⟨rfl, Below.refl _ _⟩
  · have hd : decide ((5000 : Int) < (s.length : Int)) = false := by simp; omega
    have HP := Lib.hid (fun W => iparse_any s W (by omega))
    have HR := Lib.hid (fun W => riparse_any s W (by omega))
    have hsm := parseI_small s
    have HS := Lib.hid (fun A A2 n c n2 c2 W h1 h2 => psameI_self (parseI s).1 (by omega) A A2 n c n2 c2 W h1 h2)
    have S0 := St.start w
    generalize parseI s = r at *
    go_enter Tryd.func3, Tryd.ntmps3
    go_wp2_with fail
    refine (HP.out _).mono ?_
    rintro e w1 ⟨A1, n1, c1, rfl, hown1, hb1⟩
    have S1 := ((S0.keep hb1).addRd (rd_of_own hown1)).box #[.int .i64 r.1.w, .int .i64 r.1.h, .slice A1 n1 c1] 24
    simp only [List.nil_append, List.cons_append] at S1
    go_wp2_with fail
    refine (HR.out _).mono ?_
    rintro e w2 ⟨A2, n2, c2, rfl, hown2, hb2⟩
    have S2 := ((S1.keep hb2).addRd (rd_of_own hown2)).box #[.int .i64 r.1.w, .int .i64 r.1.h, .slice A2 n2 c2] 24
    simp only [List.nil_append, List.cons_append] at S2
    obtain ⟨a0, a1, a2⟩ := (S2.blk 1 rfl).cell3
    obtain ⟨b0, b1, b2⟩ := (S2.blk 3 rfl).cell3
    go_wp2_with fail
    refine (HS.out _ _ _ _ _ _ _ (S2.rd 0 rfl) (S2.rd 2 rfl)).mono ?_
    rintro e w3 ⟨rfl, hb3⟩
    go_wp2_with fail
    go_ret
    exact ⟨by simp, (S2.keep hb3).below⟩
end Go.Proofs.YtpfonniepinjnaaDoor
