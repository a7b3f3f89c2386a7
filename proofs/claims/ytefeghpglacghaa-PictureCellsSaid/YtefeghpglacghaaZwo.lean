/- Two new grids, each with its own block and its own row. -/
import Derived.Test.YtefeghpglacghaaLib
import Derived.Test.YtefeghpglacghaaSt
import Derived.Test.YtefeghpglacghaaGd
namespace Go.Proofs.Ytefeghpglacghaa
open Go.RowKit

structure Zwo (B : Nat) (wr : World) (g1 g2 r1 r2 c1 c2 a b : Nat) (l1 l2 : List Bool) : Prop where
  b1 : Blk wr g1 40 #[.int .i64 a, .int .i64 b, .slice (some ⟨r1, 0, none⟩) (b * a) c1]
  b2 : Blk wr g2 40 #[.int .i64 a, .int .i64 b, .slice (some ⟨r2, 0, none⟩) (b * a) c2]
  o1 : wr.ownsRow B 4 1 (.slice (some ⟨r1, 0, none⟩) (b * a) c1) (b * a) (l1.map Value.bool)
  o2 : wr.ownsRow B 4 1 (.slice (some ⟨r2, 0, none⟩) (b * a) c2) (b * a) (l2.map Value.bool)
  ne : r1 ≠ r2
  gne : g1 ≠ g2
  lo1 : B ≤ g1
  lo2 : B ≤ g2
section
variable {B g1 g2 r1 r2 c1 c2 a b : Nat} {l1 l2 l : List Bool} {wr w3 : World}
theorem Zwo.drew (h : Zwo B wr g1 g2 r1 r2 c1 c2 a b l1 l2) : Zwo B wr.drew g1 g2 r1 r2 c1 c2 a b l1 l2 := ⟨h.b1.drew, h.b2.drew, h.o1.drew, h.o2.drew, h.ne, h.gne, h.lo1, h.lo2⟩
theorem Zwo.keep (h : Zwo B wr g1 g2 r1 r2 c1 c2 a b l1 l2) (hb : Below wr.heap.size wr w3) : Zwo B w3 g1 g2 r1 r2 c1 c2 a b l1 l2 := ⟨h.b1.keep hb, h.b2.keep hb, own_below h.o1 hb, own_below h.o2 hb, h.ne, h.gne, h.lo1, h.lo2⟩
theorem Zwo.fst (h : Zwo B wr g1 g2 r1 r2 c1 c2 a b l1 l2) (ho : w3.ownsRow B 4 1 (.slice (some ⟨r1, 0, none⟩) (b * a) c1) (b * a) (l.map Value.bool)) (hg : wr.grownBy w3 (some r1)) : Zwo B w3 g1 g2 r1 r2 c1 c2 a b l l2 :=
  ⟨h.b1.grown hg (own_blk_ne h.o1 h.b1 (by decide)), h.b2.grown hg (own_blk_ne h.o1 h.b2 (by decide)), ho, h.o2.kept hg (.inr (fun e => h.ne (Option.some.inj e).symm)), h.ne, h.gne, h.lo1, h.lo2⟩
theorem Zwo.snd (h : Zwo B wr g1 g2 r1 r2 c1 c2 a b l1 l2) (ho : w3.ownsRow B 4 1 (.slice (some ⟨r2, 0, none⟩) (b * a) c2) (b * a) (l.map Value.bool)) (hg : wr.grownBy w3 (some r2)) : Zwo B w3 g1 g2 r1 r2 c1 c2 a b l1 l :=
  ⟨h.b1.grown hg (own_blk_ne h.o2 h.b1 (by decide)), h.b2.grown hg (own_blk_ne h.o2 h.b2 (by decide)), h.o1.kept hg (.inr (fun e => h.ne (Option.some.inj e))), ho, h.ne, h.gne, h.lo1, h.lo2⟩
end
end Go.Proofs.Ytefeghpglacghaa
