/-
  No cell of these rows narrows 'for every input' (looked for: loops, veiled, ifaces, maps, wideKeys, modest, calm, conditions, laid).
  DERIVED. THE GIVEN ROWS OF THIS SEAT. 3 by the template 'for every input the law returns true; each argument reads behind the call as it read before'; 0 by the template 'total and deterministic' (their statements: YtdjmknhhdkjklaaGreatTotals.lean).
  GIVEN WITH THE SEED: the statements are not yours to turn. If you find one false, say at which input.
  Laid BY PROGRAM, IN A SANDBOX (cutbox-rows.mjs): the forced cells as the released guide's own fill.sh prints them over the translation bffccf94a54f8ace… (all of the seat's roots in one cut). By AI agents, Wed Nov 11 2026. No macro, syntax, notation, axiom, sorry.
-/
import Derived.Test.YtdjmknhhdkjklaaGreatChecked
import GoSem.Claim
import GoSem.ClaimJoined
import GoSem.ClaimMapViews
import Derived.JoinedTies
import Derived.KernelRfl
namespace Go.Proofs.YtdjmknhhdkjklaaGreat
/- THE CELL 'sum', in the pinned program and in every row, IS THE sha256 OF THE DUMP (.gsa) THAT YtdjmknhhdkjklaaGreatProg.lean LOADS. Nothing in Lean hashes anything: it is a label: what it is worth is what the hold of that sum in a sandbox is worth. -/
noncomputable def Tryz.pinned : Pinned := { name := "ytdjmknhhdkjklaagreat", sum := "bffccf94a54f8acefd9aacefadc467329ba9c5d258c61751c5ebbdd002c03db3", checked := Tryz.checked }
namespace Rows
def none {H : Type} : Left H := { results := [], args := [] }

/-- 'waveletlaw53.AuditNames': WHATEVER THE INPUT: true; the input reads as it did. -/
def auditNamesSpec : ChangeSpec := { name := "auditNames", fn := fun _ => fun
  | [] => { results := [.lit (.bool true)], args := [] }
  | _ => none }
def auditNamesRow : OpenClaim := { program := "ytdjmknhhdkjklaagreat", sum := "bffccf94a54f8acefd9aacefadc467329ba9c5d258c61751c5ebbdd002c03db3", func := "wavelet/waveletlaw53.AuditNames", spec := "auditNames", unfollowed := true, recurses := true, plainKeys := false, apart := false }
def AuditNamesSaid : Prop := auditNamesRow.holds Tryz.pinned (OpenSpec.ofChange auditNamesSpec)

/-- ITS FALSE NEIGHBOUR: 'it returns false'. Refute it at one input. -/
def auditNamesWrong : ChangeSpec := { name := "auditNames", fn := fun _ => fun
  | [] => { results := [.lit (.bool false)], args := [] }
  | _ => none }
def AuditNamesWrongFalsely : Prop := auditNamesRow.holds Tryz.pinned (OpenSpec.ofChange auditNamesWrong)

/-- 'waveletlaw53.AuditOptimal': WHATEVER THE INPUT: true; the input reads as it did. -/
def auditOptimalSpec : ChangeSpec := { name := "auditOptimal", fn := fun _ => fun
  | [d1, d2, d3] => { results := [.lit (.bool true)], args := [d1, d2, d3] }
  | _ => none }
def auditOptimalRow : OpenClaim := { program := "ytdjmknhhdkjklaagreat", sum := "bffccf94a54f8acefd9aacefadc467329ba9c5d258c61751c5ebbdd002c03db3", func := "wavelet/waveletlaw53.AuditOptimal", spec := "auditOptimal", unfollowed := true, recurses := true, plainKeys := false, apart := false }
def AuditOptimalSaid : Prop := auditOptimalRow.holds Tryz.pinned (OpenSpec.ofChange auditOptimalSpec)

/-- ITS FALSE NEIGHBOUR: 'it returns false'. Refute it at one input. -/
def auditOptimalWrong : ChangeSpec := { name := "auditOptimal", fn := fun _ => fun
  | [d1, d2, d3] => { results := [.lit (.bool false)], args := [d1, d2, d3] }
  | _ => none }
def AuditOptimalWrongFalsely : Prop := auditOptimalRow.holds Tryz.pinned (OpenSpec.ofChange auditOptimalWrong)

/-- 'waveletlaw53.AuditBest': WHATEVER THE INPUT: true; the input reads as it did. -/
def auditBestSpec : ChangeSpec := { name := "auditBest", fn := fun _ => fun
  | [d1, d2, d3] => { results := [.lit (.bool true)], args := [d1, d2, d3] }
  | _ => none }
def auditBestRow : OpenClaim := { program := "ytdjmknhhdkjklaagreat", sum := "bffccf94a54f8acefd9aacefadc467329ba9c5d258c61751c5ebbdd002c03db3", func := "wavelet/waveletlaw53.AuditBest", spec := "auditBest", unfollowed := true, recurses := true, plainKeys := false, apart := false }
def AuditBestSaid : Prop := auditBestRow.holds Tryz.pinned (OpenSpec.ofChange auditBestSpec)

/-- ITS FALSE NEIGHBOUR: 'it returns false'. Refute it at one input. -/
def auditBestWrong : ChangeSpec := { name := "auditBest", fn := fun _ => fun
  | [d1, d2, d3] => { results := [.lit (.bool false)], args := [d1, d2, d3] }
  | _ => none }
def AuditBestWrongFalsely : Prop := auditBestRow.holds Tryz.pinned (OpenSpec.ofChange auditBestWrong)

/- THE SECOND FORM. 'bulk': how many values and letters a reading holds, each counted each time it is reached (what is shared counts as often as it is met; a slice's spare places count too). A statement '..UptoSaid' is the law's where the arguments, and the package variables that the reading takes, are together of bulk at most 1048576: NARROWER than '..Said'. Prove '..Said' where nothing that the law and all that it calls make is longer than what came in: it says more and counts as full. Else prove '..UptoSaid'. A law counts once. -/
mutual
def uptoBulk {H : Type} : DataW H → Nat
  | .lit (.string bytes) => bytes.length + 1
  | .lit _ => 1
  | .nil => 1
  | .ptr d => uptoBulk d + 1
  | .slice elems spare => uptoBulkAll elems + uptoBulkAll spare + 1
  | .agg parts => uptoBulkAll parts + 1
  | .iface _ d => uptoBulk d + 1
  | .map entries => uptoBulkEntries entries + 1
  | .held _ => 1
def uptoBulkAll {H : Type} : List (DataW H) → Nat
  | [] => 0
  | d :: r => uptoBulk d + uptoBulkAll r
def uptoBulkEntries {H : Type} : List (Lit × DataW H) → Nat
  | [] => 0
  | x :: r => uptoBulkEntry x + uptoBulkEntries r
def uptoBulkEntry {H : Type} : Lit × DataW H → Nat
  | (.string bytes, d) => bytes.length + uptoBulk d + 1
  | (_, d) => uptoBulk d + 1
 end
def uptoSmall : (H : Type) → List (DataW H) → Bool := fun _ ds => decide (uptoBulkAll ds ≤ 1048576)
def OpenSpec.upto (s : _root_.Go.ChangeSpec) : _root_.Go.OpenSpec := { _root_.Go.OpenSpec.ofChange s with cond := some uptoSmall }

/-- 'waveletlaw53.AuditNames', WHERE WHAT IT READS IS OF BULK AT MOST 1048576: true; the input reads as it did. -/
def auditNamesUptoRow : OpenClaim := { program := "ytdjmknhhdkjklaagreat", sum := "bffccf94a54f8acefd9aacefadc467329ba9c5d258c61751c5ebbdd002c03db3", func := "wavelet/waveletlaw53.AuditNames", spec := "auditNames", unfollowed := true, recurses := true, plainKeys := false, apart := false, narrowed := true }
def AuditNamesUptoSaid : Prop := auditNamesUptoRow.holds Tryz.pinned (OpenSpec.upto auditNamesSpec)

/-- 'waveletlaw53.AuditOptimal', WHERE WHAT IT READS IS OF BULK AT MOST 1048576: true; the input reads as it did. -/
def auditOptimalUptoRow : OpenClaim := { program := "ytdjmknhhdkjklaagreat", sum := "bffccf94a54f8acefd9aacefadc467329ba9c5d258c61751c5ebbdd002c03db3", func := "wavelet/waveletlaw53.AuditOptimal", spec := "auditOptimal", unfollowed := true, recurses := true, plainKeys := false, apart := false, narrowed := true }
def AuditOptimalUptoSaid : Prop := auditOptimalUptoRow.holds Tryz.pinned (OpenSpec.upto auditOptimalSpec)

/-- 'waveletlaw53.AuditBest', WHERE WHAT IT READS IS OF BULK AT MOST 1048576: true; the input reads as it did. -/
def auditBestUptoRow : OpenClaim := { program := "ytdjmknhhdkjklaagreat", sum := "bffccf94a54f8acefd9aacefadc467329ba9c5d258c61751c5ebbdd002c03db3", func := "wavelet/waveletlaw53.AuditBest", spec := "auditBest", unfollowed := true, recurses := true, plainKeys := false, apart := false, narrowed := true }
def AuditBestUptoSaid : Prop := auditBestUptoRow.holds Tryz.pinned (OpenSpec.upto auditBestSpec)

end Rows
end Go.Proofs.YtdjmknhhdkjklaaGreat
