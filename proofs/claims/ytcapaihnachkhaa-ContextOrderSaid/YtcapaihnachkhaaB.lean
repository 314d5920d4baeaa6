/-
  What all laws of the seat share.
-/
import Derived.Test.YtcapaihnachkhaaG2
import Derived.Test.YtcapaihnachkhaaOsG
import Derived.ProofKit
set_option linter.unusedVariables false
set_option maxRecDepth 100000
namespace Go.Proofs.Ytcapaihnachkhaa
open Go.Os
open Go.ChangeShapes Go.WideShapes Go.ChangeAt Go.RowKit

theorem own : ownKnob Try.prog.godebug = none := by kernel_rfl
theorem laidOut : laidOutB Try.prog = true := by kernel_rfl
theorem mixed : Try.prog.follows .mixedOrders = true := by kernel_rfl
theorem noRoutine : ∀ (f : FuncId) (fn : Func), Try.prog.funcs[f]? = some fn → fn.name ≠ "runtime.NumGoroutine" := no_name (by kernel_rfl)

theorem wrap64 {x : Int} (h : -9223372036854775808 ≤ x) (h' : x ≤ 9223372036854775807) : IntKind.wrap .i64 x = x := by
  unfold IntKind.wrap
  simp [IntKind.bits, IntKind.signed]
  omega

theorem lim2 (x : Int) : re.mn (re.mx x 0) 2 = 0 ∨ re.mn (re.mx x 0) 2 = 1 ∨ re.mn (re.mx x 0) 2 = 2 := by
  simp only [re]
  split <;> split <;> omega

theorem lim4 (x : Int) : re.mn (re.mx x 0) 4 = 0 ∨ re.mn (re.mx x 0) 4 = 1 ∨ re.mn (re.mx x 0) 4 = 2 ∨ re.mn (re.mx x 0) 4 = 3 ∨ re.mn (re.mx x 0) 4 = 4 := by
  simp only [re]
  split <;> split <;> omega

theorem limS (x : Int) : (re.mn (re.mx x (-1)) 1 = -1 ∧ x < 0) ∨ (re.mn (re.mx x (-1)) 1 = 0 ∧ x = 0) ∨ (re.mn (re.mx x (-1)) 1 = 1 ∧ 0 < x) := by
  simp only [re]
  split <;> split <;> omega

end Go.Proofs.Ytcapaihnachkhaa
