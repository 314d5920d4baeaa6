/-
  EncoderValidates: the law answers true for every input.
-/
import Derived.Test.Ytcapaihnachkhaa8c
set_option linter.unusedVariables false
set_option maxRecDepth 100000
namespace Go.Proofs.Ytcapaihnachkhaa
open Go.Os
open Go.ChangeShapes Go.WideShapes Go.ChangeAt Go.RowKit

theorem p8 (a b c d w h : Int) {cs ps : List R} (hc : ∀ x ∈ cs, shOK (.ag shC4) x) (hp : ∀ x ∈ ps, shOK (.ag shP) x) : F8_0 re rk 5000 a b c d w h cs ps (fun y => yes (T.r (R.b y)) []) = some () := by
  obtain ⟨v, hv, h1⟩ := few a b c d w h hc hp
  unfold F8_0 G8_0
  simp only [h1]
  cases v with
  | false => rfl
  | true =>
    obtain ⟨e, h2, h3⟩ := image a b c d w h hc hp (hv rfl).1 (hv rfl).2
    have e1 : re.cm .eql e e = true := decide_eq_true rfl
    simp only [h2, h3, e1]
    rfl

theorem r8 (xs : List R) (h : shOKL [.ag [.i .i64, .i .i64, .i .i64, .i .i64, .i .i64, .i .i64, .sl 4 (.ag shC4), .sl 5 (.ag shP)]] xs) : ∃ n, runF Try.prog re Hn n 8 (xs.map T.r) = some (.r (.b true), []) := by
  obtain ⟨_, _, rfl, ⟨l, rfl, hl⟩, rfl⟩ := h
  obtain ⟨_, _, rfl, ⟨a, rfl, _, _⟩, _, _, rfl, ⟨b, rfl, _, _⟩, _, _, rfl, ⟨c, rfl, _, _⟩, _, _, rfl, ⟨d, rfl, _, _⟩, _, _, rfl, ⟨w, rfl, _, _⟩, _, _, rfl, ⟨h, rfl, _, _⟩, _, _, rfl, ⟨cs, rfl, _, hc⟩, _, _, rfl, ⟨ps, rfl, _, hp⟩, rfl⟩ := hl
  exact law_of_snd (o8_0 5000) (g := fun kk => F8_0 re rk 5000 a b c d w h cs ps (fun y => kk (T.r (R.b y)) [])) rfl (p8 a b c d w h hc hp)

theorem encoderValidates_lifted (os : Os) (started : os.Started) (H : Type) (enc : TypeId × Value → H) :
    ReturnsInHanded {} Try.checked os 8 .any (Rows.encoderValidatesSpec.pre6 enc Try.prog Try.f8 Rows.encoderValidatesRow.domain false) (Rows.encoderValidatesSpec.post enc Try.prog Try.f8 false true false false) := by
  refine returnsInHanded_of_change (C := Try.checked) own started (by kernel_rfl) Try.func8
    (ChangeSpec.witness6 (enc := enc) (C := Try.checked) false ⟨#[], #[.agg #[.int .i64 0, .int .i64 0, .int .i64 0, .int .i64 0, .int .i64 0, .int .i64 0, .slice none 0 0, .slice none 0 0]], []⟩ 8 (by kernel_rfl) (by kernel_rfl) (by kernel_rfl) (by kernel_rfl)) ?_
  intro W base args ds gs before hval hW hcnd _
  exact law_contract (tb := Try.f8.resultTypes.getD 0 0) (shs := [.ag [.i .i64, .i .i64, .i .i64, .i .i64, .i .i64, .i .i64, .sl 4 (.ag shC4), .sl 5 (.ag shP)]]) (m := 9) mixed noRoutine laidOut Hn rfl (fun ds h => by
    match ds, h with
    | [a], _ => rfl) (by kernel_rfl) (by kernel_rfl) (reads_ok (by kernel_rfl)) (by kernel_rfl) r8 hval hW

theorem encoderValidates_holds : Rows.EncoderValidatesSaid :=
  OpenClaim.holds_of_wide 8 Try.f8 rfl rfl rfl rfl rfl rfl rfl ⟨rfl, rfl, rfl, rfl, rfl⟩ rfl rfl rfl rfl rfl (by kernel_rfl) Try.func8 (by kernel_rfl)
    (of_decide_eq_true (by kernel_rfl)) (by unfold Func.isWrapper; first | (rw [if_pos (by decide +kernel)]; kernel_rfl) | (rw [if_neg (by decide +kernel)]; exact ⟨rfl, rfl⟩))
    (fun os started H enc _ => encoderValidates_lifted os started H enc)

end Go.Proofs.Ytcapaihnachkhaa
