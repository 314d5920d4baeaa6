/-
  EncoderOptimal: the law answers true for every input.
-/
import Derived.Test.Ytcapaihnachkhaa28c
set_option linter.unusedVariables false
set_option maxRecDepth 100000
namespace Go.Proofs.Ytcapaihnachkhaa
open Go.Os
open Go.ChangeShapes Go.WideShapes Go.ChangeAt Go.RowKit
abbrev shCu : Sh := .sl 2 (.ag [.sl 1 (.i .i64), .sl 1 (.i .i64)])
abbrev shTs : Sh := .sl 1 (.i .i64)
abbrev shOt : Sh := .sl 1 (.i .u8)
theorem r10 (xs : List R) (h : shOKL [shCu, shTs, shOt] xs) : ∃ n, runF Try.prog re Hn n 10 (xs.map T.r) = some (.r (.b true), []) := by
  obtain ⟨_, _, rfl, ⟨l1, rfl, _, hl1⟩, _, _, rfl, ⟨l2, rfl, _, hl2⟩, _, _, rfl, ⟨l3, rfl, _, hl3⟩, rfl⟩ := h
  obtain ⟨cs, rfl⟩ := curs_of hl1
  obtain ⟨ts, rfl, hi⟩ := ints_of hl2
  obtain ⟨o, rfl, ho⟩ := u8s_of hl3
  exact law_of_snd (o10_0 5000) (g := fun kk => F10_0 re rk 5000 (curs cs) (ints ts) (u8s o) (fun y => kk (T.r (R.b y)) [])) rfl (p10 cs ts o hi ho)
theorem encoderOptimal_lifted (os : Os) (started : os.Started) (H : Type) (enc : TypeId × Value → H) :
    ReturnsInHanded {} Try.checked os 10 .any (Rows.encoderOptimalSpec.pre6 enc Try.prog Try.f10 Rows.encoderOptimalRow.domain false) (Rows.encoderOptimalSpec.post enc Try.prog Try.f10 false true false false) := by
  refine returnsInHanded_of_change (C := Try.checked) own started (by kernel_rfl) Try.func10
    (ChangeSpec.witness6 (enc := enc) (C := Try.checked) false ⟨#[], #[.slice none 0 0, .slice none 0 0, .slice none 0 0], []⟩ 10 (by kernel_rfl) (by kernel_rfl) (by kernel_rfl) (by kernel_rfl)) ?_
  intro W base args ds gs before hval hW hcnd _
  exact law_contract (tb := Try.f10.resultTypes.getD 0 0) (shs := [shCu, shTs, shOt]) (m := 9) mixed noRoutine laidOut Hn rfl (fun ds h => by
    match ds, h with
    | [a, b, c], _ => rfl) (by kernel_rfl) (by kernel_rfl) (reads_ok (by kernel_rfl)) (by kernel_rfl) r10 hval hW
theorem encoderOptimal_holds : Rows.EncoderOptimalSaid :=
  OpenClaim.holds_of_wide 10 Try.f10 rfl rfl rfl rfl rfl rfl rfl ⟨rfl, rfl, rfl, rfl, rfl⟩ rfl rfl rfl rfl rfl (by kernel_rfl) Try.func10 (by kernel_rfl)
    (of_decide_eq_true (by kernel_rfl)) (by unfold Func.isWrapper; first | (rw [if_pos (by decide +kernel)]; kernel_rfl) | (rw [if_neg (by decide +kernel)]; exact ⟨rfl, rfl⟩))
    (fun os started H enc _ => encoderOptimal_lifted os started H enc)
end Go.Proofs.Ytcapaihnachkhaa
