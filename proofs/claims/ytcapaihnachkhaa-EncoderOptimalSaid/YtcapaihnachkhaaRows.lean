/-
  No cell of these rows narrows 'for every input' (looked for: loops, veiled, ifaces, maps, wideKeys, modest, calm, conditions, laid).
  DERIVED. THE GIVEN ROWS OF THIS SEAT. 10 by the template 'for every input the law returns true; each argument reads behind the call as it read before'; 0 by the template 'total and deterministic' (their statements: YtcapaihnachkhaaTotals.lean).
  GIVEN WITH THE SEED: the statements are not yours to turn. If you find one false, say at which input.
  Laid BY PROGRAM, IN A SANDBOX (cutbox-rows.mjs): the forced cells as the released guide's own fill.sh prints them over the translation d9078f34b70a1ca3… (all of the seat's roots in one cut). By AI agents, Wed Nov 11 2026. No macro, syntax, notation, axiom, sorry.
-/
import Derived.Test.YtcapaihnachkhaaChecked
import GoSem.Claim
import GoSem.ClaimJoined
import GoSem.ClaimMapViews
import Derived.JoinedTies
import Derived.KernelRfl
namespace Go.Proofs.Ytcapaihnachkhaa
/- THE CELL 'sum', in the pinned program and in every row, IS THE sha256 OF THE DUMP (.gsa) THAT YtcapaihnachkhaaProg.lean LOADS. Nothing in Lean hashes anything: it is a label: what it is worth is what the hold of that sum in a sandbox is worth. -/
noncomputable def Try.pinned : Pinned := { name := "ytcapaihnachkhaa", sum := "d9078f34b70a1ca385076fec5341eb5a8bf4ad3b588be7ea7083810ce9d8df0a", checked := Try.checked }
namespace Rows
def none {H : Type} : Left H := { results := [], args := [] }

/-- 'waveletlaw13.ContextSignificance': WHATEVER THE INPUT: true; the input reads as it did. -/
def contextSignificanceSpec : ChangeSpec := { name := "contextSignificance", fn := fun _ => fun
  | [d1, d2] => { results := [.lit (.bool true)], args := [d1, d2] }
  | _ => none }
def contextSignificanceRow : OpenClaim := { program := "ytcapaihnachkhaa", sum := "d9078f34b70a1ca385076fec5341eb5a8bf4ad3b588be7ea7083810ce9d8df0a", func := "wavelet/waveletlaw13.ContextSignificance", spec := "contextSignificance", apart := false }
def ContextSignificanceSaid : Prop := contextSignificanceRow.holds Try.pinned (OpenSpec.ofChange contextSignificanceSpec)

/-- ITS FALSE NEIGHBOUR: 'it returns false'. Refute it at one input. -/
def contextSignificanceWrong : ChangeSpec := { name := "contextSignificance", fn := fun _ => fun
  | [d1, d2] => { results := [.lit (.bool false)], args := [d1, d2] }
  | _ => none }
def ContextSignificanceWrongFalsely : Prop := contextSignificanceRow.holds Try.pinned (OpenSpec.ofChange contextSignificanceWrong)

/-- 'waveletlaw13.ContextSigns': WHATEVER THE INPUT: true; the input reads as it did. -/
def contextSignsSpec : ChangeSpec := { name := "contextSigns", fn := fun _ => fun
  | [d1, d2] => { results := [.lit (.bool true)], args := [d1, d2] }
  | _ => none }
def contextSignsRow : OpenClaim := { program := "ytcapaihnachkhaa", sum := "d9078f34b70a1ca385076fec5341eb5a8bf4ad3b588be7ea7083810ce9d8df0a", func := "wavelet/waveletlaw13.ContextSigns", spec := "contextSigns", recurses := true, apart := false }
def ContextSignsSaid : Prop := contextSignsRow.holds Try.pinned (OpenSpec.ofChange contextSignsSpec)

/-- ITS FALSE NEIGHBOUR: 'it returns false'. Refute it at one input. -/
def contextSignsWrong : ChangeSpec := { name := "contextSigns", fn := fun _ => fun
  | [d1, d2] => { results := [.lit (.bool false)], args := [d1, d2] }
  | _ => none }
def ContextSignsWrongFalsely : Prop := contextSignsRow.holds Try.pinned (OpenSpec.ofChange contextSignsWrong)

/-- 'waveletlaw13.ContextRefines': WHATEVER THE INPUT: true; the input reads as it did. -/
def contextRefinesSpec : ChangeSpec := { name := "contextRefines", fn := fun _ => fun
  | [d1, d2, d3] => { results := [.lit (.bool true)], args := [d1, d2, d3] }
  | _ => none }
def contextRefinesRow : OpenClaim := { program := "ytcapaihnachkhaa", sum := "d9078f34b70a1ca385076fec5341eb5a8bf4ad3b588be7ea7083810ce9d8df0a", func := "wavelet/waveletlaw13.ContextRefines", spec := "contextRefines", apart := false }
def ContextRefinesSaid : Prop := contextRefinesRow.holds Try.pinned (OpenSpec.ofChange contextRefinesSpec)

/-- ITS FALSE NEIGHBOUR: 'it returns false'. Refute it at one input. -/
def contextRefinesWrong : ChangeSpec := { name := "contextRefines", fn := fun _ => fun
  | [d1, d2, d3] => { results := [.lit (.bool false)], args := [d1, d2, d3] }
  | _ => none }
def ContextRefinesWrongFalsely : Prop := contextRefinesRow.holds Try.pinned (OpenSpec.ofChange contextRefinesWrong)

/-- 'waveletlaw13.ContextSymmetry': WHATEVER THE INPUT: true; the input reads as it did. -/
def contextSymmetrySpec : ChangeSpec := { name := "contextSymmetry", fn := fun _ => fun
  | [d] => { results := [.lit (.bool true)], args := [d] }
  | _ => none }
def contextSymmetryRow : OpenClaim := { program := "ytcapaihnachkhaa", sum := "d9078f34b70a1ca385076fec5341eb5a8bf4ad3b588be7ea7083810ce9d8df0a", func := "wavelet/waveletlaw13.ContextSymmetry", spec := "contextSymmetry", apart := false }
def ContextSymmetrySaid : Prop := contextSymmetryRow.holds Try.pinned (OpenSpec.ofChange contextSymmetrySpec)

/-- ITS FALSE NEIGHBOUR: 'it returns false'. Refute it at one input. -/
def contextSymmetryWrong : ChangeSpec := { name := "contextSymmetry", fn := fun _ => fun
  | [d] => { results := [.lit (.bool false)], args := [d] }
  | _ => none }
def ContextSymmetryWrongFalsely : Prop := contextSymmetryRow.holds Try.pinned (OpenSpec.ofChange contextSymmetryWrong)

/-- 'waveletlaw13.ContextOrder': WHATEVER THE INPUT: true; the input reads as it did. -/
def contextOrderSpec : ChangeSpec := { name := "contextOrder", fn := fun _ => fun
  | [d1, d2, d3] => { results := [.lit (.bool true)], args := [d1, d2, d3] }
  | _ => none }
def contextOrderRow : OpenClaim := { program := "ytcapaihnachkhaa", sum := "d9078f34b70a1ca385076fec5341eb5a8bf4ad3b588be7ea7083810ce9d8df0a", func := "wavelet/waveletlaw13.ContextOrder", spec := "contextOrder", apart := false }
def ContextOrderSaid : Prop := contextOrderRow.holds Try.pinned (OpenSpec.ofChange contextOrderSpec)

/-- ITS FALSE NEIGHBOUR: 'it returns false'. Refute it at one input. -/
def contextOrderWrong : ChangeSpec := { name := "contextOrder", fn := fun _ => fun
  | [d1, d2, d3] => { results := [.lit (.bool false)], args := [d1, d2, d3] }
  | _ => none }
def ContextOrderWrongFalsely : Prop := contextOrderRow.holds Try.pinned (OpenSpec.ofChange contextOrderWrong)

/-- 'waveletlaw36.EncoderValidates': WHATEVER THE INPUT: true; the input reads as it did. -/
def encoderValidatesSpec : ChangeSpec := { name := "encoderValidates", fn := fun _ => fun
  | [d] => { results := [.lit (.bool true)], args := [d] }
  | _ => none }
def encoderValidatesRow : OpenClaim := { program := "ytcapaihnachkhaa", sum := "d9078f34b70a1ca385076fec5341eb5a8bf4ad3b588be7ea7083810ce9d8df0a", func := "wavelet/waveletlaw36.EncoderValidates", spec := "encoderValidates", apart := false }
def EncoderValidatesSaid : Prop := encoderValidatesRow.holds Try.pinned (OpenSpec.ofChange encoderValidatesSpec)

/-- ITS FALSE NEIGHBOUR: 'it returns false'. Refute it at one input. -/
def encoderValidatesWrong : ChangeSpec := { name := "encoderValidates", fn := fun _ => fun
  | [d] => { results := [.lit (.bool false)], args := [d] }
  | _ => none }
def EncoderValidatesWrongFalsely : Prop := encoderValidatesRow.holds Try.pinned (OpenSpec.ofChange encoderValidatesWrong)

/-- 'waveletlaw36.EncoderChooses': WHATEVER THE INPUT: true; the input reads as it did. -/
def encoderChoosesSpec : ChangeSpec := { name := "encoderChooses", fn := fun _ => fun
  | [d1, d2] => { results := [.lit (.bool true)], args := [d1, d2] }
  | _ => none }
def encoderChoosesRow : OpenClaim := { program := "ytcapaihnachkhaa", sum := "d9078f34b70a1ca385076fec5341eb5a8bf4ad3b588be7ea7083810ce9d8df0a", func := "wavelet/waveletlaw36.EncoderChooses", spec := "encoderChooses", unfollowed := true, recurses := true, apart := false }
def EncoderChoosesSaid : Prop := encoderChoosesRow.holds Try.pinned (OpenSpec.ofChange encoderChoosesSpec)

/-- ITS FALSE NEIGHBOUR: 'it returns false'. Refute it at one input. -/
def encoderChoosesWrong : ChangeSpec := { name := "encoderChooses", fn := fun _ => fun
  | [d1, d2] => { results := [.lit (.bool false)], args := [d1, d2] }
  | _ => none }
def EncoderChoosesWrongFalsely : Prop := encoderChoosesRow.holds Try.pinned (OpenSpec.ofChange encoderChoosesWrong)

/-- 'waveletlaw36.EncoderOptimal': WHATEVER THE INPUT: true; the input reads as it did. -/
def encoderOptimalSpec : ChangeSpec := { name := "encoderOptimal", fn := fun _ => fun
  | [d1, d2, d3] => { results := [.lit (.bool true)], args := [d1, d2, d3] }
  | _ => none }
def encoderOptimalRow : OpenClaim := { program := "ytcapaihnachkhaa", sum := "d9078f34b70a1ca385076fec5341eb5a8bf4ad3b588be7ea7083810ce9d8df0a", func := "wavelet/waveletlaw36.EncoderOptimal", spec := "encoderOptimal", unfollowed := true, recurses := true, apart := false }
def EncoderOptimalSaid : Prop := encoderOptimalRow.holds Try.pinned (OpenSpec.ofChange encoderOptimalSpec)

/-- ITS FALSE NEIGHBOUR: 'it returns false'. Refute it at one input. -/
def encoderOptimalWrong : ChangeSpec := { name := "encoderOptimal", fn := fun _ => fun
  | [d1, d2, d3] => { results := [.lit (.bool false)], args := [d1, d2, d3] }
  | _ => none }
def EncoderOptimalWrongFalsely : Prop := encoderOptimalRow.holds Try.pinned (OpenSpec.ofChange encoderOptimalWrong)

/-- 'waveletlaw37.DecoderReduces': WHATEVER THE INPUT: true; the input reads as it did. -/
def decoderReducesSpec : ChangeSpec := { name := "decoderReduces", fn := fun _ => fun
  | [d1, d2, d3] => { results := [.lit (.bool true)], args := [d1, d2, d3] }
  | _ => none }
def decoderReducesRow : OpenClaim := { program := "ytcapaihnachkhaa", sum := "d9078f34b70a1ca385076fec5341eb5a8bf4ad3b588be7ea7083810ce9d8df0a", func := "wavelet/waveletlaw37.DecoderReduces", spec := "decoderReduces", apart := false }
def DecoderReducesSaid : Prop := decoderReducesRow.holds Try.pinned (OpenSpec.ofChange decoderReducesSpec)

/-- ITS FALSE NEIGHBOUR: 'it returns false'. Refute it at one input. -/
def decoderReducesWrong : ChangeSpec := { name := "decoderReduces", fn := fun _ => fun
  | [d1, d2, d3] => { results := [.lit (.bool false)], args := [d1, d2, d3] }
  | _ => none }
def DecoderReducesWrongFalsely : Prop := decoderReducesRow.holds Try.pinned (OpenSpec.ofChange decoderReducesWrong)

/-- 'waveletlaw37.DecoderCrops': WHATEVER THE INPUT: true; the input reads as it did. -/
def decoderCropsSpec : ChangeSpec := { name := "decoderCrops", fn := fun _ => fun
  | [d1, d2] => { results := [.lit (.bool true)], args := [d1, d2] }
  | _ => none }
def decoderCropsRow : OpenClaim := { program := "ytcapaihnachkhaa", sum := "d9078f34b70a1ca385076fec5341eb5a8bf4ad3b588be7ea7083810ce9d8df0a", func := "wavelet/waveletlaw37.DecoderCrops", spec := "decoderCrops", apart := false }
def DecoderCropsSaid : Prop := decoderCropsRow.holds Try.pinned (OpenSpec.ofChange decoderCropsSpec)

/-- ITS FALSE NEIGHBOUR: 'it returns false'. Refute it at one input. -/
def decoderCropsWrong : ChangeSpec := { name := "decoderCrops", fn := fun _ => fun
  | [d1, d2] => { results := [.lit (.bool false)], args := [d1, d2] }
  | _ => none }
def DecoderCropsWrongFalsely : Prop := decoderCropsRow.holds Try.pinned (OpenSpec.ofChange decoderCropsWrong)

/- THE SECOND FORM. 'bulk': how many values and letters a reading holds, each counted each time it is reached (what is shared counts as often as it is met; a slice's spare places count too). A statement '..UptoSaid' is the law's where the arguments, and the package variables that the reading takes, are together of bulk at most 1048576: NARROWER than '..Said'. Prove '..Said' where nothing that the law and all that it calls make is longer than what came in: it says more and counts as full. Else prove '..UptoSaid'. A law counts once. -/
mutual
def uptoBulk {H : Type} : DataW H → Nat
  | .lit (.string bytes) => bytes.length + 1
  | .lit _ => 1
  | .nil => 1
  | .ptr d => uptoBulk d + 1
  | .slice elems spare => uptoBulkAll elems + uptoBulkAll spare + 1
  | .agg parts => uptoBulkAll parts + 1
  | .iface _ d => uptoBulk d + 1
  | .map entries => uptoBulkEntries entries + 1
  | .held _ => 1
def uptoBulkAll {H : Type} : List (DataW H) → Nat
  | [] => 0
  | d :: r => uptoBulk d + uptoBulkAll r
def uptoBulkEntries {H : Type} : List (Lit × DataW H) → Nat
  | [] => 0
  | x :: r => uptoBulkEntry x + uptoBulkEntries r
def uptoBulkEntry {H : Type} : Lit × DataW H → Nat
  | (.string bytes, d) => bytes.length + uptoBulk d + 1
  | (_, d) => uptoBulk d + 1
 end
def uptoSmall : (H : Type) → List (DataW H) → Bool := fun _ ds => decide (uptoBulkAll ds ≤ 1048576)
def OpenSpec.upto (s : _root_.Go.ChangeSpec) : _root_.Go.OpenSpec := { _root_.Go.OpenSpec.ofChange s with cond := some uptoSmall }

/-- 'waveletlaw13.ContextSignificance', WHERE WHAT IT READS IS OF BULK AT MOST 1048576: true; the input reads as it did. -/
def contextSignificanceUptoRow : OpenClaim := { program := "ytcapaihnachkhaa", sum := "d9078f34b70a1ca385076fec5341eb5a8bf4ad3b588be7ea7083810ce9d8df0a", func := "wavelet/waveletlaw13.ContextSignificance", spec := "contextSignificance", apart := false, narrowed := true }
def ContextSignificanceUptoSaid : Prop := contextSignificanceUptoRow.holds Try.pinned (OpenSpec.upto contextSignificanceSpec)

/-- 'waveletlaw13.ContextSigns', WHERE WHAT IT READS IS OF BULK AT MOST 1048576: true; the input reads as it did. -/
def contextSignsUptoRow : OpenClaim := { program := "ytcapaihnachkhaa", sum := "d9078f34b70a1ca385076fec5341eb5a8bf4ad3b588be7ea7083810ce9d8df0a", func := "wavelet/waveletlaw13.ContextSigns", spec := "contextSigns", recurses := true, apart := false, narrowed := true }
def ContextSignsUptoSaid : Prop := contextSignsUptoRow.holds Try.pinned (OpenSpec.upto contextSignsSpec)

/-- 'waveletlaw13.ContextRefines', WHERE WHAT IT READS IS OF BULK AT MOST 1048576: true; the input reads as it did. -/
def contextRefinesUptoRow : OpenClaim := { program := "ytcapaihnachkhaa", sum := "d9078f34b70a1ca385076fec5341eb5a8bf4ad3b588be7ea7083810ce9d8df0a", func := "wavelet/waveletlaw13.ContextRefines", spec := "contextRefines", apart := false, narrowed := true }
def ContextRefinesUptoSaid : Prop := contextRefinesUptoRow.holds Try.pinned (OpenSpec.upto contextRefinesSpec)

/-- 'waveletlaw13.ContextSymmetry', WHERE WHAT IT READS IS OF BULK AT MOST 1048576: true; the input reads as it did. -/
def contextSymmetryUptoRow : OpenClaim := { program := "ytcapaihnachkhaa", sum := "d9078f34b70a1ca385076fec5341eb5a8bf4ad3b588be7ea7083810ce9d8df0a", func := "wavelet/waveletlaw13.ContextSymmetry", spec := "contextSymmetry", apart := false, narrowed := true }
def ContextSymmetryUptoSaid : Prop := contextSymmetryUptoRow.holds Try.pinned (OpenSpec.upto contextSymmetrySpec)

/-- 'waveletlaw13.ContextOrder', WHERE WHAT IT READS IS OF BULK AT MOST 1048576: true; the input reads as it did. -/
def contextOrderUptoRow : OpenClaim := { program := "ytcapaihnachkhaa", sum := "d9078f34b70a1ca385076fec5341eb5a8bf4ad3b588be7ea7083810ce9d8df0a", func := "wavelet/waveletlaw13.ContextOrder", spec := "contextOrder", apart := false, narrowed := true }
def ContextOrderUptoSaid : Prop := contextOrderUptoRow.holds Try.pinned (OpenSpec.upto contextOrderSpec)

/-- 'waveletlaw36.EncoderValidates', WHERE WHAT IT READS IS OF BULK AT MOST 1048576: true; the input reads as it did. -/
def encoderValidatesUptoRow : OpenClaim := { program := "ytcapaihnachkhaa", sum := "d9078f34b70a1ca385076fec5341eb5a8bf4ad3b588be7ea7083810ce9d8df0a", func := "wavelet/waveletlaw36.EncoderValidates", spec := "encoderValidates", apart := false, narrowed := true }
def EncoderValidatesUptoSaid : Prop := encoderValidatesUptoRow.holds Try.pinned (OpenSpec.upto encoderValidatesSpec)

/-- 'waveletlaw36.EncoderChooses', WHERE WHAT IT READS IS OF BULK AT MOST 1048576: true; the input reads as it did. -/
def encoderChoosesUptoRow : OpenClaim := { program := "ytcapaihnachkhaa", sum := "d9078f34b70a1ca385076fec5341eb5a8bf4ad3b588be7ea7083810ce9d8df0a", func := "wavelet/waveletlaw36.EncoderChooses", spec := "encoderChooses", unfollowed := true, recurses := true, apart := false, narrowed := true }
def EncoderChoosesUptoSaid : Prop := encoderChoosesUptoRow.holds Try.pinned (OpenSpec.upto encoderChoosesSpec)

/-- 'waveletlaw36.EncoderOptimal', WHERE WHAT IT READS IS OF BULK AT MOST 1048576: true; the input reads as it did. -/
def encoderOptimalUptoRow : OpenClaim := { program := "ytcapaihnachkhaa", sum := "d9078f34b70a1ca385076fec5341eb5a8bf4ad3b588be7ea7083810ce9d8df0a", func := "wavelet/waveletlaw36.EncoderOptimal", spec := "encoderOptimal", unfollowed := true, recurses := true, apart := false, narrowed := true }
def EncoderOptimalUptoSaid : Prop := encoderOptimalUptoRow.holds Try.pinned (OpenSpec.upto encoderOptimalSpec)

/-- 'waveletlaw37.DecoderReduces', WHERE WHAT IT READS IS OF BULK AT MOST 1048576: true; the input reads as it did. -/
def decoderReducesUptoRow : OpenClaim := { program := "ytcapaihnachkhaa", sum := "d9078f34b70a1ca385076fec5341eb5a8bf4ad3b588be7ea7083810ce9d8df0a", func := "wavelet/waveletlaw37.DecoderReduces", spec := "decoderReduces", apart := false, narrowed := true }
def DecoderReducesUptoSaid : Prop := decoderReducesUptoRow.holds Try.pinned (OpenSpec.upto decoderReducesSpec)

/-- 'waveletlaw37.DecoderCrops', WHERE WHAT IT READS IS OF BULK AT MOST 1048576: true; the input reads as it did. -/
def decoderCropsUptoRow : OpenClaim := { program := "ytcapaihnachkhaa", sum := "d9078f34b70a1ca385076fec5341eb5a8bf4ad3b588be7ea7083810ce9d8df0a", func := "wavelet/waveletlaw37.DecoderCrops", spec := "decoderCrops", apart := false, narrowed := true }
def DecoderCropsUptoSaid : Prop := decoderCropsUptoRow.holds Try.pinned (OpenSpec.upto decoderCropsSpec)

end Rows
end Go.Proofs.Ytcapaihnachkhaa
