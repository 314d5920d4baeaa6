/-
  Sorted steps.
-/
import Derived.Test.YtdjmknhhdkjklaaGreat7e
set_option linter.unusedVariables false
set_option linter.unusedSimpArgs false
set_option maxRecDepth 100000
namespace Go.Proofs.YtdjmknhhdkjklaaGreat
open Go.Os
open Go.ChangeShapes Go.WideShapes Go.ChangeAt Go.RowKit
noncomputable def srt (l : List St) : List St := insL gtT [] l
theorem srt_mem {l : List St} {s : St} (h : s ∈ srt l) : s ∈ l := by
  rcases insL_mem h with h | h
  · cases h
  · exact h
theorem mkn_ok {n b : Nat} (h : n * b ≤ 70368744177664) (h' : n ≤ 70368744177664) : re.mkn (n : Int) b = some n := by
  show (if 0 ≤ (n : Int) ∧ (n : Int) ≤ 70368744177664 ∧ (n : Int) * (b : Int) ≤ 70368744177664 then some (n : Int).toNat else none) = some n
  have h2 : (n : Int) * (b : Int) ≤ 70368744177664 := by rw [← Int.natCast_mul]; omega
  rw [if_pos ⟨by omega, by omega, h2⟩]; rfl
theorem sx_ok {a n : Nat} (h : a ≤ n) : re.sx (a : Int) n = some a := by
  show (if 0 ≤ (a : Int) ∧ (a : Int) ≤ (n : Int) then some (a : Int).toNat else none) = some a
  rw [if_pos (by omega)]; rfl
theorem srt_len (l : List St) : (srt l).length = l.length := by unfold srt; rw [insL_len]; simp
end Go.Proofs.YtdjmknhhdkjklaaGreat
