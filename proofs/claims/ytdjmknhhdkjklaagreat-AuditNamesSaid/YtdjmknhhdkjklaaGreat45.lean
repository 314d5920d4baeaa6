/-
  AuditNames: the law answers true.
-/
import Derived.Test.YtdjmknhhdkjklaaGreatH
import Derived.Test.YtdjmknhhdkjklaaGreatJ
import Derived.Test.YtdjmknhhdkjklaaGreatOsG
import Derived.ProofKit
set_option linter.unusedVariables false
set_option maxRecDepth 100000
namespace Go.Proofs.YtdjmknhhdkjklaaGreat
open Go.Os
open Go.ChangeShapes Go.WideShapes Go.ChangeAt Go.RowKit
theorem own : ownKnob Tryz.prog.godebug = none := by kernel_rfl
theorem laidOut : laidOutB Tryz.prog = true := by kernel_rfl
theorem mixed : Tryz.prog.follows .mixedOrders = true := by kernel_rfl
theorem noRoutine : ∀ (f : FuncId) (fn : Func), Tryz.prog.funcs[f]? = some fn → fn.name ≠ "runtime.NumGoroutine" := no_name (by kernel_rfl)
theorem r3 (xs : List R) (h : shOKL [] xs) : ∃ n, runF Tryz.prog re Hn n 3 (xs.map T.r) = some (.r (.b true), []) := by
  have h : xs = [] := h
  subst h
  exact ⟨60, by kernel_rfl⟩
theorem auditNames_lifted (os : Os) (started : os.Started) (H : Type) (enc : TypeId × Value → H) :
    ReturnsInHanded {} Tryz.checked os 3 .any (Rows.auditNamesSpec.pre6 enc Tryz.prog Tryz.f3 Rows.auditNamesRow.domain false) (Rows.auditNamesSpec.post enc Tryz.prog Tryz.f3 false true false false) := by
  refine returnsInHanded_of_change (C := Tryz.checked) own started (by kernel_rfl) Tryz.func3
    (ChangeSpec.witness6 (enc := enc) (C := Tryz.checked) false ⟨#[], #[], []⟩ 3 (by kernel_rfl) (by kernel_rfl) (by kernel_rfl) (by kernel_rfl)) ?_
  intro W base args ds gs before hval hW hcnd _
  exact law_contract (tb := Tryz.f3.resultTypes.getD 0 0) (shs := []) (m := 9) mixed noRoutine laidOut Hn rfl (fun ds h => by
    match ds, h with
    | [], _ => rfl) (by kernel_rfl) (by kernel_rfl) (reads_ok (by kernel_rfl)) (by kernel_rfl) r3 hval hW
theorem j0 : (Rows.auditNamesRow.wf (OpenSpec.ofChange Rows.auditNamesSpec)) = true := by kernel_rfl
theorem j3 : (Tryz.f3.params.all (Tryz.prog.readableRec ·)) = true := by kernel_rfl
theorem j4 : (namedTie Tryz.prog Rows.auditNamesRow.named Rows.auditNamesSpec.vars) = true := by kernel_rfl
theorem j5 : ((Rows.auditNamesRow.stops == [])) = true := by kernel_rfl
theorem j7 : ((Rows.auditNamesRow.knobs == [])) = true := by kernel_rfl
theorem j9 : ((Rows.auditNamesRow.inPlace == Tryz.prog.inPlace 3)) = true := by kernel_rfl
theorem j10 : ((Rows.auditNamesRow.unfollowed == Tryz.prog.unfollowed 3)) = true := by kernel_rfl
theorem j11 : ((Rows.auditNamesRow.recurses == Tryz.prog.recurses 3)) = true := by kernel_rfl
theorem j12 : ((Rows.auditNamesRow.named == Tryz.prog.varsNamed 3)) = true := by kernel_rfl
theorem j13 : ((Rows.auditNamesRow.maps == (Tryz.f3.params.toList ++ Rows.auditNamesSpec.plain.varTypes Tryz.prog).any (Tryz.prog.mapsRec ·))) = true := by kernel_rfl
theorem j14 : ((Rows.auditNamesRow.ifaces == (Tryz.f3.params.toList ++ Rows.auditNamesSpec.plain.varTypes Tryz.prog).any (Tryz.prog.ifacesRec ·))) = true := by kernel_rfl
theorem j15 : ((Rows.auditNamesRow.mapsOut == Tryz.prog.mapsAmong Tryz.f3.resultTypes.toList)) = true := by kernel_rfl
theorem j16 : ((Rows.auditNamesRow.loops == (Tryz.f3.params.toList ++ Rows.auditNamesSpec.plain.varTypes Tryz.prog).any (Tryz.prog.loopsFrom ·))) = true := by kernel_rfl
theorem j17 : ((Rows.auditNamesRow.wideKeys == (Tryz.f3.params.toList ++ Rows.auditNamesSpec.plain.varTypes Tryz.prog ++ Tryz.f3.resultTypes.toList).any (Tryz.prog.wideKeysFrom ·))) = true := by kernel_rfl
theorem j18 : (Rows.auditNamesSpec.vars.all (Tryz.prog.varReadable ·)) = true := by kernel_rfl
theorem j19 : (Tryz.f3.resultTypes.all (fun t => Tryz.prog.readableRec t && decide (t < Tryz.prog.types.size))) = true := by kernel_rfl
theorem j20 : ((Rows.auditNamesRow.ifacesOut == Tryz.f3.resultTypes.toList.any (Tryz.prog.ifacesRec ·))) = true := by kernel_rfl
theorem j21 : ((Rows.auditNamesRow.loopsOut == Tryz.f3.resultTypes.toList.any (Tryz.prog.loopsFrom ·))) = true := by kernel_rfl
theorem j22 : ((Rows.auditNamesRow.plainKeys == Tryz.prog.plainKeys)) = true := by kernel_rfl
theorem j23 : (Rows.auditNamesRow.shortTexts.isNone) = true := by kernel_rfl
theorem j26 : ((Rows.auditNamesRow.lifted == Tryz.prog.liftsFinal)) = true := by kernel_rfl
theorem j27 : ((Tryz.prog.make == some Rows.auditNamesRow.make)) = true := by kernel_rfl
theorem j28 : ((Rows.auditNamesRow.kinds == (if Rows.auditNamesRow.domain.isEmpty then [] else Tryz.f3.params.toList.map fun t => match Tryz.prog.underlying t with | some (.int k) => some k | _ => none))) = true := by kernel_rfl
theorem j29 : ((Rows.auditNamesRow.pinned == Rows.auditNamesRow.pinnedBy)) = true := by kernel_rfl
theorem j30 : ((Rows.auditNamesRow.veiled == (Tryz.f3.params.toList ++ Rows.auditNamesSpec.plain.varTypes Tryz.prog ++ Tryz.f3.resultTypes.toList).any (Tryz.prog.veiledRec ·))) = true := by kernel_rfl
theorem j31 : (Rows.auditNamesRow.veiledFits Tryz.prog Tryz.f3.params.toList (Tryz.f3.params.toList ++ Rows.auditNamesSpec.plain.varTypes Tryz.prog ++ Tryz.f3.resultTypes.toList)) = true := by kernel_rfl
theorem joined : joinedFacts Tryz.prog 3 Tryz.f3 Rows.auditNamesSpec Rows.auditNamesRow = true :=
  andT (andT (andT (andT (andT (andT (andT (andT (andT (andT (andT (andT (andT (andT (andT (andT (andT (andT (andT (andT (andT (andT (andT (andT (andT (andT (andT (andT (andT (andT (andT j0 jP1) jP2) j3) j4) j5) jP6) j7) jP8) j9) j10) j11) j12) j13) j14) j15) j16) j17) j18) j19) j20) j21) j22) j23) jP24) jP25) j26) j27) j28) j29) j30) j31
theorem auditNames_holds : Rows.AuditNamesSaid :=
  OpenClaim.holds_of_wide 3 Tryz.f3 rfl rfl rfl rfl rfl rfl rfl ⟨rfl, rfl, rfl, rfl, rfl⟩ rfl rfl rfl rfl rfl (by kernel_rfl) Tryz.func3 joined
    (of_decide_eq_true (by kernel_rfl)) (by unfold Func.isWrapper; first | (rw [if_pos (by decide +kernel)]; kernel_rfl) | (rw [if_neg (by decide +kernel)]; exact ⟨rfl, rfl⟩))
    (fun os started H enc _ => auditNames_lifted os started H enc)
end Go.Proofs.YtdjmknhhdkjklaaGreat
