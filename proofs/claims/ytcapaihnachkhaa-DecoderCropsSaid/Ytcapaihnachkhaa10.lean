/-
  DecoderCrops: the law answers true for every input.
-/
import Derived.Test.Ytcapaihnachkhaa10g
set_option linter.unusedVariables false
set_option maxRecDepth 100000
namespace Go.Proofs.Ytcapaihnachkhaa
open Go.Os
open Go.ChangeShapes Go.WideShapes Go.ChangeAt Go.RowKit
abbrev shI : Sh := .ag [.i .i64, .i .i64, .i .i64, .i .i64, .i .i64, .i .i64, .sl 4 (.ag shC4), .sl 5 (.ag shP)]
abbrev shW : Sh := .ag [.i .i64, .i .i64, .i .i64, .i .i64]
theorem r12 (xs : List R) (h : shOKL [shI, shW] xs) : ∃ n, runF Try.prog re Hn n 12 (xs.map T.r) = some (.r (.b true), []) := by
  obtain ⟨_, _, rfl, ⟨l1, rfl, hl1⟩, _, _, rfl, ⟨l2, rfl, hl2⟩, rfl⟩ := h
  obtain ⟨_, _, rfl, ⟨a, rfl, _, _⟩, _, _, rfl, ⟨b, rfl, _, _⟩, _, _, rfl, ⟨c, rfl, _, _⟩, _, _, rfl, ⟨d, rfl, _, _⟩, _, _, rfl, ⟨w, rfl, _, _⟩, _, _, rfl, ⟨h, rfl, _, _⟩, _, _, rfl, ⟨cs, rfl, _, hc⟩, _, _, rfl, ⟨ps, rfl, _, hp⟩, rfl⟩ := hl1
  obtain ⟨_, _, rfl, ⟨w0, rfl, _, _⟩, _, _, rfl, ⟨w1, rfl, _, _⟩, _, _, rfl, ⟨w2, rfl, _, _⟩, _, _, rfl, ⟨w3, rfl, _, _⟩, rfl⟩ := hl2
  exact law_of_snd (o12_0 5000) (g := fun kk => F12_0 re rk 5000 a b c d w h cs ps w0 w1 w2 w3 (fun y => kk (T.r (R.b y)) [])) rfl (p12 a b c d w h hc hp w0 w1 w2 w3)
theorem decoderCrops_lifted (os : Os) (started : os.Started) (H : Type) (enc : TypeId × Value → H) :
    ReturnsInHanded {} Try.checked os 12 .any (Rows.decoderCropsSpec.pre6 enc Try.prog Try.f12 Rows.decoderCropsRow.domain false) (Rows.decoderCropsSpec.post enc Try.prog Try.f12 false true false false) := by
  refine returnsInHanded_of_change (C := Try.checked) own started (by kernel_rfl) Try.func12
    (ChangeSpec.witness6 (enc := enc) (C := Try.checked) false ⟨#[], #[.agg #[.int .i64 0, .int .i64 0, .int .i64 0, .int .i64 0, .int .i64 0, .int .i64 0, .slice none 0 0, .slice none 0 0], .agg #[.int .i64 0, .int .i64 0, .int .i64 0, .int .i64 0]], []⟩ 12 (by kernel_rfl) (by kernel_rfl) (by kernel_rfl) (by kernel_rfl)) ?_
  intro W base args ds gs before hval hW hcnd _
  exact law_contract (tb := Try.f12.resultTypes.getD 0 0) (shs := [shI, shW]) (m := 9) mixed noRoutine laidOut Hn rfl (fun ds h => by
    match ds, h with
    | [a, b], _ => rfl) (by kernel_rfl) (by kernel_rfl) (reads_ok (by kernel_rfl)) (by kernel_rfl) r12 hval hW
theorem decoderCrops_holds : Rows.DecoderCropsSaid :=
  OpenClaim.holds_of_wide 12 Try.f12 rfl rfl rfl rfl rfl rfl rfl ⟨rfl, rfl, rfl, rfl, rfl⟩ rfl rfl rfl rfl rfl (by kernel_rfl) Try.func12 (by kernel_rfl)
    (of_decide_eq_true (by kernel_rfl)) (by unfold Func.isWrapper; first | (rw [if_pos (by decide +kernel)]; kernel_rfl) | (rw [if_neg (by decide +kernel)]; exact ⟨rfl, rfl⟩))
    (fun os started H enc _ => decoderCrops_lifted os started H enc)
end Go.Proofs.Ytcapaihnachkhaa
