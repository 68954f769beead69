/- Fibers: the chapter's example. -/
import Derived.Test.YtjgndfhfiekomaaFibT
namespace Go.Proofs.Ytjgndfhfiekomaa
open Go.ChangeShapes Go.WideShapes Go.RowKit
def fa1 : Ar := (fibF (Ar.new 20) 20 45 45).1
def fb1 : Ar := (objF fa1 20 8 (entL true 8 [16] [24] 1)).1
def fa2 : Ar := (fibF fb1 20 1 41).1
def fb2 : Ar := (objF fa2 20 8 (entL false 32 [40] [48] 1)).1
def fa3 : Ar := (fibF fb2 20 81 121).1
def fb3 : Ar := (objF fa3 20 6 [smW 0, 161, 81]).1
def fa4 : Ar := capF fa3 20 161 81 201
def fa5 : Ar := (pushF fa4 20 1 8 1 1).1
def fa6 : Ar := resF fa5 20 1 201
namespace fiberAlive
theorem e0 : (fibF (Ar.new 20) 20 45 45).2 = some 1 := by decide +kernel
theorem e1 : (objF fa1 20 8 (entL true 8 [16] [24] 1)).2 = some 41 := by decide +kernel
theorem e2 : (fibF fb1 20 1 41).2 = some 81 := by decide +kernel
theorem e3 : (objF fa2 20 8 (entL false 32 [40] [48] 1)).2 = some 121 := by decide +kernel
theorem e4 : (fibF fb2 20 81 121).2 = some 161 := by decide +kernel
theorem e5 : chF fa3 20 10 161 = some 3 := by decide +kernel
theorem e6 : srF fa3 20 16 10 161 0 = some (some (1, 3)) := by decide +kernel
theorem e7 : srOk fa3 20 10 161 = true := by decide +kernel
theorem e8 : dnF fa3 20 1 161 = some 81 := by decide +kernel
theorem e9 : gtF fa3 20 (gtF fa3 20 81 3) 3 = 24 := by decide +kernel
theorem e10 : lowF fa3 20 81 = false := by decide +kernel
theorem e11 : (objF fa3 20 6 [smW 0, 161, 81]).2 = some 201 := by decide +kernel
theorem e12 : hasF fb3 20 81 = true := by decide +kernel
theorem e13 : nmF fb3 20 (gtF fb3 20 81 3) 0 = 1 := by decide +kernel
theorem e14 : gtF fb3 20 81 0 = 1 := by decide +kernel
theorem e15 : chF fa4 20 10 1 = some 1 := by decide +kernel
theorem e16 : (pushF fa4 20 1 8 1 1).2 = true := by decide +kernel
theorem e17 : rmF fa4 20 (gtF fa4 20 1 1) = 0 := by decide +kernel
theorem e18 : (placeF fa4 20 1 (5 + 1 + 1)).2 = some 38913 := by decide +kernel
theorem e19 : nmF (placeF fa4 20 1 (5 + 1 + 1)).1 20 38913 1 = 0 := by decide +kernel
theorem e20 : freshF fa5 20 201 = 0 := by decide +kernel
theorem e21 : gtF fa5 20 201 1 = 161 := by decide +kernel
theorem e22 : chF fa6 20 10 161 = some 3 := by decide +kernel
theorem e23 : freshF fa6 20 201 = 201 := by decide +kernel
end fiberAlive
end Go.Proofs.Ytjgndfhfiekomaa
