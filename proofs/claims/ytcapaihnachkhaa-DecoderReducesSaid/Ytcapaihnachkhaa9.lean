/-
  DecoderReduces: the law answers true for every input.
-/
import Derived.Test.Ytcapaihnachkhaa9f
set_option linter.unusedVariables false
set_option maxRecDepth 100000
namespace Go.Proofs.Ytcapaihnachkhaa
open Go.Os
open Go.ChangeShapes Go.WideShapes Go.ChangeAt Go.RowKit

abbrev shH : Sh := .ag [.i .i64, .i .i64, .i .i64, .i .i64, .i .i64, .i .i64, .sl 4 (.ag shC4)]
abbrev shPar : Sh := .ag [.i .i64, .i .i64, .i .i64, .i .i64, .i .i64, .sl 2 (.ag shP2), .i .i64, .i .i64, .b, .b, .b, .b, .b, .b, .b, .b, .sl 1 (.i .i64), .i .i64, .i .i64]
abbrev shV : Sh := .ag [.i .i64, .i .i64, .i .i64, .i .i64, .i .i64, .i .i64]

theorem r11 (xs : List R) (h : shOKL [shH, shPar, shV] xs) : ∃ n, runF Try.prog re Hn n 11 (xs.map T.r) = some (.r (.b true), []) := by
  obtain ⟨_, _, rfl, ⟨l1, rfl, hl1⟩, _, _, rfl, ⟨l2, rfl, hl2⟩, _, _, rfl, ⟨l3, rfl, hl3⟩, rfl⟩ := h
  obtain ⟨_, _, rfl, ⟨a, rfl, _, _⟩, _, _, rfl, ⟨b, rfl, _, _⟩, _, _, rfl, ⟨c, rfl, _, _⟩, _, _, rfl, ⟨d, rfl, _, _⟩, _, _, rfl, ⟨tw, rfl, _, _⟩, _, _, rfl, ⟨th, rfl, _, _⟩, _, _, rfl, ⟨cs, rfl, _, hc⟩, rfl⟩ := hl1
  obtain ⟨_, _, rfl, ⟨kn, rfl, _, _⟩, _, _, rfl, ⟨lv, rfl, _, _⟩, _, _, rfl, ⟨co, rfl, _, _⟩, _, _, rfl, ⟨bx, rfl, _, _⟩, _, _, rfl, ⟨xy, rfl, _, _⟩, _, _, rfl, ⟨pc, rfl, _, hp⟩, _, _, rfl, ⟨od, rfl, _, _⟩, _, _, rfl, ⟨ly, rfl, _, _⟩,
    _, _, rfl, ⟨b1, rfl⟩, _, _, rfl, ⟨b2, rfl⟩, _, _, rfl, ⟨b3, rfl⟩, _, _, rfl, ⟨b4, rfl⟩, _, _, rfl, ⟨b5, rfl⟩, _, _, rfl, ⟨b6, rfl⟩, _, _, rfl, ⟨b7, rfl⟩, _, _, rfl, ⟨b8, rfl⟩, _, _, rfl, ⟨st, rfl, _, hs⟩, _, _, rfl, ⟨dd, rfl, _, _⟩, _, _, rfl, ⟨sf, rfl, _, _⟩, rfl⟩ := hl2
  obtain ⟨_, _, rfl, ⟨vl, rfl, _, _⟩, _, _, rfl, ⟨vd, rfl, _, _⟩, _, _, rfl, ⟨w0, rfl, _, _⟩, _, _, rfl, ⟨w1, rfl, _, _⟩, _, _, rfl, ⟨w2, rfl, _, _⟩, _, _, rfl, ⟨w3, rfl, _, _⟩, rfl⟩ := hl3
  exact law_of_snd (o11_0 5000) (g := fun kk => F11_0 re rk 5000 a b c d tw th cs kn lv co bx xy pc od ly b1 b2 b3 b4 b5 b6 b7 b8 st dd sf vl vd w0 w1 w2 w3 (fun y => kk (T.r (R.b y)) [])) rfl (p11 a b c d tw th cs kn lv co bx xy pc od ly b1 b2 b3 b4 b5 b6 b7 b8 st dd sf hc hp hs vl vd w0 w1 w2 w3)

theorem decoderReduces_lifted (os : Os) (started : os.Started) (H : Type) (enc : TypeId × Value → H) :
    ReturnsInHanded {} Try.checked os 11 .any (Rows.decoderReducesSpec.pre6 enc Try.prog Try.f11 Rows.decoderReducesRow.domain false) (Rows.decoderReducesSpec.post enc Try.prog Try.f11 false true false false) := by
  refine returnsInHanded_of_change (C := Try.checked) own started (by kernel_rfl) Try.func11
    (ChangeSpec.witness6 (enc := enc) (C := Try.checked) false ⟨#[], #[.agg #[.int .i64 0, .int .i64 0, .int .i64 0, .int .i64 0, .int .i64 0, .int .i64 0, .slice none 0 0], .agg #[.int .i64 0, .int .i64 0, .int .i64 0, .int .i64 0, .int .i64 0, .slice none 0 0, .int .i64 0, .int .i64 0, .bool false, .bool false, .bool false, .bool false, .bool false, .bool false, .bool false, .bool false, .slice none 0 0, .int .i64 0, .int .i64 0], .agg #[.int .i64 0, .int .i64 0, .int .i64 0, .int .i64 0, .int .i64 0, .int .i64 0]], []⟩ 11 (by kernel_rfl) (by kernel_rfl) (by kernel_rfl) (by kernel_rfl)) ?_
  intro W base args ds gs before hval hW hcnd _
  exact law_contract (tb := Try.f11.resultTypes.getD 0 0) (shs := [shH, shPar, shV]) (m := 9) mixed noRoutine laidOut Hn rfl (fun ds h => by
    match ds, h with
    | [a, b, c], _ => rfl) (by kernel_rfl) (by kernel_rfl) (reads_ok (by kernel_rfl)) (by kernel_rfl) r11 hval hW

theorem decoderReduces_holds : Rows.DecoderReducesSaid :=
  OpenClaim.holds_of_wide 11 Try.f11 rfl rfl rfl rfl rfl rfl rfl ⟨rfl, rfl, rfl, rfl, rfl⟩ rfl rfl rfl rfl rfl (by kernel_rfl) Try.func11 (by kernel_rfl)
    (of_decide_eq_true (by kernel_rfl)) (by unfold Func.isWrapper; first | (rw [if_pos (by decide +kernel)]; kernel_rfl) | (rw [if_neg (by decide +kernel)]; exact ⟨rfl, rfl⟩))
    (fun os started H enc _ => decoderReduces_lifted os started H enc)

end Go.Proofs.Ytcapaihnachkhaa
