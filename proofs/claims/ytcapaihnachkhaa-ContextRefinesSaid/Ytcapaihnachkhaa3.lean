/-
  ContextSignificance: the law answers true for every input.
-/
import Derived.Test.YtcapaihnachkhaaG1
import Derived.Test.YtcapaihnachkhaaOsG
import Derived.ProofKit
set_option linter.unusedVariables false
set_option maxRecDepth 100000
namespace Go.Proofs.Ytcapaihnachkhaa
open Go.Os
open Go.ChangeShapes Go.WideShapes Go.ChangeAt Go.RowKit

theorem own : ownKnob Try.prog.godebug = none := by kernel_rfl
theorem laidOut : laidOutB Try.prog = true := by kernel_rfl
theorem mixed : Try.prog.follows .mixedOrders = true := by kernel_rfl
theorem noRoutine : ∀ (f : FuncId) (fn : Func), Try.prog.funcs[f]? = some fn → fn.name ≠ "runtime.NumGoroutine" := no_name (by kernel_rfl)

theorem lim2 (x : Int) : re.mn (re.mx x 0) 2 = 0 ∨ re.mn (re.mx x 0) 2 = 1 ∨ re.mn (re.mx x 0) 2 = 2 := by
  simp only [re]
  split <;> split <;> omega

theorem lim4 (x : Int) : re.mn (re.mx x 0) 4 = 0 ∨ re.mn (re.mx x 0) 4 = 1 ∨ re.mn (re.mx x 0) 4 = 2 ∨ re.mn (re.mx x 0) 4 = 3 ∨ re.mn (re.mx x 0) 4 = 4 := by
  simp only [re]
  split <;> split <;> omega

theorem p3 (N : Nat) (x1 x2 x3 x4 : Int) : F3_0 re rk N x1 x2 x3 x4 (fun y => yes (T.r (R.b y)) []) = some () := by
  unfold F3_0 F13_1 F14_5 F39_2 F42_6
  generalize re.cm .eql x1 3 = b3
  generalize re.cm .eql x1 1 = b1
  rcases lim2 x2 with h | h | h <;> rcases lim2 x3 with h' | h' | h' <;> rcases lim4 x4 with h'' | h'' | h'' | h'' | h'' <;> rw [h, h', h''] <;> cases b3 <;> cases b1 <;> kernel_rfl

theorem r3 (xs : List R) (h : shOKL [.i .i64, .ag [.i .i64, .i .i64, .i .i64]] xs) : ∃ n, runF Try.prog re Hn n 3 (xs.map T.r) = some (.r (.b true), []) := by
  obtain ⟨a, l, rfl, ⟨o, rfl, _, _⟩, b, l', rfl, ⟨m, rfl, hm⟩, rfl⟩ := h
  obtain ⟨_, _, rfl, ⟨n0, rfl, _, _⟩, _, _, rfl, ⟨n1, rfl, _, _⟩, _, _, rfl, ⟨n2, rfl, _, _⟩, rfl⟩ := hm
  exact law_of_snd (o3_0 0) (g := fun kk => F3_0 re rk 0 o n0 n1 n2 (fun y => kk (T.r (R.b y)) [])) rfl (p3 0 o n0 n1 n2)

theorem contextSignificance_lifted (os : Os) (started : os.Started) (H : Type) (enc : TypeId × Value → H) :
    ReturnsInHanded {} Try.checked os 3 .any (Rows.contextSignificanceSpec.pre6 enc Try.prog Try.f3 Rows.contextSignificanceRow.domain false) (Rows.contextSignificanceSpec.post enc Try.prog Try.f3 false true false false) := by
  refine returnsInHanded_of_change (C := Try.checked) own started (by kernel_rfl) Try.func3
    (ChangeSpec.witness6 (enc := enc) (C := Try.checked) false ⟨#[], #[.int .i64 0, .agg #[.int .i64 0, .int .i64 0, .int .i64 0]], []⟩ 8 (by kernel_rfl) (by kernel_rfl) (by kernel_rfl) (by kernel_rfl)) ?_
  intro W base args ds gs before hval hW hcnd _
  exact law_contract (tb := Try.f3.resultTypes.getD 0 0) (shs := [.i .i64, .ag [.i .i64, .i .i64, .i .i64]]) (m := 9) mixed noRoutine laidOut Hn rfl (fun ds h => by
    match ds, h with
    | [a, b], _ => rfl) (by kernel_rfl) (by kernel_rfl) (reads_ok (by kernel_rfl)) (by kernel_rfl) r3 hval hW

theorem contextSignificance_holds : Rows.ContextSignificanceSaid :=
  OpenClaim.holds_of_wide 3 Try.f3 rfl rfl rfl rfl rfl rfl rfl ⟨rfl, rfl, rfl, rfl, rfl⟩ rfl rfl rfl rfl rfl (by kernel_rfl) Try.func3 (by kernel_rfl)
    (of_decide_eq_true (by kernel_rfl)) (by unfold Func.isWrapper; first | (rw [if_pos (by decide +kernel)]; kernel_rfl) | (rw [if_neg (by decide +kernel)]; exact ⟨rfl, rfl⟩))
    (fun os started H enc _ => contextSignificance_lifted os started H enc)

end Go.Proofs.Ytcapaihnachkhaa
