/- The examples of the law SatinNames. No program in sight. -/
import Derived.Test.YtbgekiifffnalaaDoorCountersA
import Derived.Test.YtbgekiifffnalaaDoorSatinA9
import Derived.Test.YtbgekiifffnalaaDoorTwP
import Derived.Test.YtbgekiifffnalaaDoorRunsP
import Derived.Test.YtbgekiifffnalaaDoorSatP
import Derived.Test.YtbgekiifffnalaaDoorSplP
namespace Go.Proofs.YtbgekiifffnalaaDoor
open Go.RowKit

def txA : List UInt8 := [46, 120, 120, 46, 120, 46, 10, 120, 46, 120, 46, 46, 120, 10, 120, 46, 46, 120, 120, 46, 10]
def txB : List UInt8 := [120, 120, 120, 46, 10]
def gA : Gd := (twillG [1, 2, 2, 1] 2).1
def gB : Gd := (twillG [3, 1] (-4)).1
def gS : Gd := (satinMG 7 3).1
def gO : Gd := (notG gS).1
def gN : Gd := (parseG [120, 46, 10, 46, 46, 10]).1
theorem nm1 : twillG [1, 2, 2, 1] 2 = (gA, 0) := Prod.ext rfl (by decide +kernel)
theorem nm1t : textG gA = (txA, 0) := by decide +kernel
theorem nm2 : twillG [3, 1] (-4) = (gB, 0) := Prod.ext rfl (by decide +kernel)
theorem nm2t : textG gB = (txB, 0) := by decide +kernel
def cL : List Int := (countersG 64).1
theorem nm3 : countersG 64 = (cL, 0) := Prod.ext rfl (by decide +kernel)
theorem nm3l : cL.length = 30 := by decide +kernel
theorem nm3a : cL[0]? = some 3 := by decide +kernel
theorem nm3b : cL[29]? = some 61 := by decide +kernel
theorem nm4 : satinMG 7 3 = (gS, 0) := Prod.ext rfl (by decide +kernel)
theorem nm5 : notG gS = (gO, 0) := Prod.ext rfl (by decide +kernel)
theorem nm6 : satG gO = ((7, 3, false), 0) := by decide +kernel
theorem nm7 : movesG gA = ([2], 0) := by decide +kernel
theorem nm8 : movesG gS = ([3], 0) := by decide +kernel
theorem nm9 : parseG [120, 46, 10, 46, 46, 10] = (gN, 0) := Prod.ext rfl (by decide +kernel)
theorem nm10 : movesG gN = ([], 0) := by decide +kernel
theorem nm11 : countersG 4 = ([], 2) := by decide +kernel
theorem nm12 : countersG 65 = ([], 2) := by decide +kernel
theorem nm13 : satinMG 6 2 = (Gd.zero, 2) := Prod.ext rfl (by decide +kernel)
theorem nm14 : satinMG 7 6 = (Gd.zero, 2) := Prod.ext rfl (by decide +kernel)
theorem nm15 : twillG [1, 2, 1] 1 = (Gd.zero, 8) := Prod.ext rfl (by decide +kernel)
theorem nm16 : twillG [60, 5] 1 = (Gd.zero, 8) := Prod.ext rfl (by decide +kernel)
theorem nm17 : twillG [1, 0] 1 = (Gd.zero, 8) := Prod.ext rfl (by decide +kernel)
theorem nm18 : runsG (List.replicate 65 false) = ([], 4) := by decide +kernel
theorem nm19 : runsG [true, true] = ([], 8) := by decide +kernel
theorem nm20 : runsG [] = ([], 8) := by decide +kernel
theorem nm21 : satG gA = ((0, 0, false), 6) := by decide +kernel
theorem nm22 : satG Gd.zero = ((0, 0, false), 8) := by decide +kernel
theorem nm23 : twillG [] 1 = (Gd.zero, 8) := Prod.ext rfl (by decide +kernel)
end Go.Proofs.YtbgekiifffnalaaDoor
