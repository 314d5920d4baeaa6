/-
  Facts of the program as a whole.
-/
import Derived.Test.YthlnfebecphcmaaGreatRows
import Derived.ProofKit
set_option maxRecDepth 100000
namespace Go.Proofs.YthlnfebecphcmaaGreat
open Go.ChangeShapes Go.WideShapes Go.ChangeAt Go.RowKit
theorem andT {a b : Bool} (h : a = true) (k : b = true) : (a && b) = true := by rw [h, k]; rfl
theorem jP1 : (laidOutB Tryz.prog) = true := by kernel_rfl
theorem jP2 : (mapsRowed Tryz.prog) = true := by kernel_rfl
theorem jP6 : ((Tryz.prog.stops == [])) = true := by kernel_rfl
theorem jP8 : ((Tryz.prog.stopKnobs == [])) = true := by kernel_rfl
theorem jP24 : (Tryz.prog.stopsHeard) = true := by kernel_rfl
theorem jP25 : (Tryz.prog.mayEnter) = true := by kernel_rfl
end Go.Proofs.YthlnfebecphcmaaGreat
