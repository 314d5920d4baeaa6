/-
  AuditOptimal: the law answers true for every input.
-/
import Derived.Test.YtdjmknhhdkjklaaGreat47a
import Derived.Test.YtdjmknhhdkjklaaGreatJ
set_option linter.unusedVariables false
set_option linter.unusedSimpArgs false
set_option maxRecDepth 100000
namespace Go.Proofs.YtdjmknhhdkjklaaGreat
open Go.Os
open Go.ChangeShapes Go.WideShapes Go.ChangeAt Go.RowKit
abbrev shCu : Sh := .sl 2 (.ag [.sl 1 (.i .i64), .sl 1 (.i .i64)])
abbrev shTs : Sh := .sl 1 (.i .i64)
theorem be_refl (x : Bool) : re.be x x = true := by cases x <;> rfl
theorem F10_v (cs : CL) (a b : IL) : ∃ v, (∀ k : Bool → Option Unit, F10_0 re rk 5000 (curs cs) (ints a) (ints b) k = k v) ∧ (v = true → cs.length ≤ 40) := by
  unfold F10_0 G10_0
  simp only [len_curs, len_ints, e_on, e_gtr]
  by_cases h : 40 < cs.length
  · exact ⟨false, fun k => by simp only [decide_eq_true (show (40 : Int) < ((cs.length : Nat) : Int) by omega)], fun h => by cases h⟩
  · simp only [decide_eq_false (show ¬ (40 : Int) < ((cs.length : Nat) : Int) by omega)]
    cases decide ((50 : Int) < ((a.length : Nat) : Int)) with
    | true => exact ⟨false, fun k => rfl, fun h => by cases h⟩
    | false =>
      cases decide ((50 : Int) < ((b.length : Nat) : Int)) with
      | true => exact ⟨false, fun k => rfl, fun h => by cases h⟩
      | false =>
        refine ⟨allB (fewC cs) cs.length 0, fun k => ?_, fun _ => by omega⟩
        refine (L10_v cs (fun x => k x) (k true) (by omega) cs.length 0 5000 (by omega) (by omega)).trans ?_
        cases allB (fewC cs) cs.length 0 <;> rfl
theorem p4 (cs : CL) (a b : IL) : F4_0 re rk 5000 (curs cs) (ints a) (ints b) (fun y => yes (T.r (R.b y)) []) = some () := by
  obtain ⟨v, hv, hc⟩ := F10_v cs a b
  have z1 : re.cm .eql 0 0 = true := rfl
  have z2 : re.cm .neq 0 0 = false := rfl
  have y1 : ∀ {e : Int}, e ≠ 0 → re.cm .eql e 0 = false := fun h => decide_eq_false h
  have y2 : ∀ {e : Int}, e ≠ 0 → re.cm .neq e 0 = true := fun h => decide_eq_true h
  unfold F4_0 G4_0
  simp only [hv, e_bn]
  cases v with
  | false => rfl
  | true =>
    have hc := hc rfl
    simp only [Bool.not_true, F11_0, G11_0, F12_0, G12_0]
    rcases cost_v cs hc a with ⟨_, _, a1, a2⟩ | ⟨e, ea, a1, a2⟩
    · simp only [a1, a2, z1, z2]
      rcases cost_v cs hc b with ⟨_, _, b1, b2⟩ | ⟨e, eb, b1, b2⟩
      · simp only [b1, b2, z1, z2]
        cases re.cm .gtr (cR cs b) (cR cs a) with
        | true => simp only [be_refl]; rfl
        | false => simp only [be_refl]; rfl
      · simp only [b1, b2, y1 eb, y2 eb, be_refl]; rfl
    · simp only [a1, a2, y1 ea, y2 ea]
      rcases cost_v cs hc b with ⟨_, _, b1, b2⟩ | ⟨e, eb, b1, b2⟩
      · simp only [b2, be_refl]; rfl
      · simp only [b2, be_refl]; rfl
theorem r4 (xs : List R) (h : shOKL [shCu, shTs, shTs] xs) : ∃ n, runF Tryz.prog re Hn n 4 (xs.map T.r) = some (.r (.b true), []) := by
  obtain ⟨_, _, rfl, ⟨l1, rfl, _, hl1⟩, _, _, rfl, ⟨l2, rfl, _, hl2⟩, _, _, rfl, ⟨l3, rfl, _, hl3⟩, rfl⟩ := h
  obtain ⟨cs, rfl⟩ := curs_of hl1
  obtain ⟨a, rfl, _⟩ := ints_of hl2
  obtain ⟨b, rfl, _⟩ := ints_of hl3
  exact law_of_snd (o4_0 5000) (g := fun kk => F4_0 re rk 5000 (curs cs) (ints a) (ints b) (fun y => kk (T.r (R.b y)) [])) rfl (p4 cs a b)
theorem auditOptimal_lifted (os : Os) (started : os.Started) (H : Type) (enc : TypeId × Value → H) :
    ReturnsInHanded {} Tryz.checked os 4 .any (Rows.auditOptimalSpec.pre6 enc Tryz.prog Tryz.f4 Rows.auditOptimalRow.domain false) (Rows.auditOptimalSpec.post enc Tryz.prog Tryz.f4 false true false false) := by
  refine returnsInHanded_of_change (C := Tryz.checked) own started (by kernel_rfl) Tryz.func4
    (ChangeSpec.witness6 (enc := enc) (C := Tryz.checked) false ⟨#[], #[.slice none 0 0, .slice none 0 0, .slice none 0 0], []⟩ 4 (by kernel_rfl) (by kernel_rfl) (by kernel_rfl) (by kernel_rfl)) ?_
  intro W base args ds gs before hval hW hcnd _
  exact law_contract (tb := Tryz.f4.resultTypes.getD 0 0) (shs := [shCu, shTs, shTs]) (m := 9) mixed noRoutine laidOut Hn rfl (fun ds h => by
    match ds, h with
    | [a, b, c], _ => rfl) (by kernel_rfl) (by kernel_rfl) (reads_ok (by kernel_rfl)) (by kernel_rfl) r4 hval hW
theorem j0 : (Rows.auditOptimalRow.wf (OpenSpec.ofChange Rows.auditOptimalSpec)) = true := by kernel_rfl
theorem j3 : (Tryz.f4.params.all (Tryz.prog.readableRec ·)) = true := by kernel_rfl
theorem j4 : (namedTie Tryz.prog Rows.auditOptimalRow.named Rows.auditOptimalSpec.vars) = true := by kernel_rfl
theorem j5 : ((Rows.auditOptimalRow.stops == [])) = true := by kernel_rfl
theorem j7 : ((Rows.auditOptimalRow.knobs == [])) = true := by kernel_rfl
theorem j9 : ((Rows.auditOptimalRow.inPlace == Tryz.prog.inPlace 4)) = true := by kernel_rfl
theorem j10 : ((Rows.auditOptimalRow.unfollowed == Tryz.prog.unfollowed 4)) = true := by kernel_rfl
theorem j11 : ((Rows.auditOptimalRow.recurses == Tryz.prog.recurses 4)) = true := by kernel_rfl
theorem j12 : ((Rows.auditOptimalRow.named == Tryz.prog.varsNamed 4)) = true := by kernel_rfl
theorem j13 : ((Rows.auditOptimalRow.maps == (Tryz.f4.params.toList ++ Rows.auditOptimalSpec.plain.varTypes Tryz.prog).any (Tryz.prog.mapsRec ·))) = true := by kernel_rfl
theorem j14 : ((Rows.auditOptimalRow.ifaces == (Tryz.f4.params.toList ++ Rows.auditOptimalSpec.plain.varTypes Tryz.prog).any (Tryz.prog.ifacesRec ·))) = true := by kernel_rfl
theorem j15 : ((Rows.auditOptimalRow.mapsOut == Tryz.prog.mapsAmong Tryz.f4.resultTypes.toList)) = true := by kernel_rfl
theorem j16 : ((Rows.auditOptimalRow.loops == (Tryz.f4.params.toList ++ Rows.auditOptimalSpec.plain.varTypes Tryz.prog).any (Tryz.prog.loopsFrom ·))) = true := by kernel_rfl
theorem j17 : ((Rows.auditOptimalRow.wideKeys == (Tryz.f4.params.toList ++ Rows.auditOptimalSpec.plain.varTypes Tryz.prog ++ Tryz.f4.resultTypes.toList).any (Tryz.prog.wideKeysFrom ·))) = true := by kernel_rfl
theorem j18 : (Rows.auditOptimalSpec.vars.all (Tryz.prog.varReadable ·)) = true := by kernel_rfl
theorem j19 : (Tryz.f4.resultTypes.all (fun t => Tryz.prog.readableRec t && decide (t < Tryz.prog.types.size))) = true := by kernel_rfl
theorem j20 : ((Rows.auditOptimalRow.ifacesOut == Tryz.f4.resultTypes.toList.any (Tryz.prog.ifacesRec ·))) = true := by kernel_rfl
theorem j21 : ((Rows.auditOptimalRow.loopsOut == Tryz.f4.resultTypes.toList.any (Tryz.prog.loopsFrom ·))) = true := by kernel_rfl
theorem j22 : ((Rows.auditOptimalRow.plainKeys == Tryz.prog.plainKeys)) = true := by kernel_rfl
theorem j23 : (Rows.auditOptimalRow.shortTexts.isNone) = true := by kernel_rfl
theorem j26 : ((Rows.auditOptimalRow.lifted == Tryz.prog.liftsFinal)) = true := by kernel_rfl
theorem j27 : ((Tryz.prog.make == some Rows.auditOptimalRow.make)) = true := by kernel_rfl
theorem j28 : ((Rows.auditOptimalRow.kinds == (if Rows.auditOptimalRow.domain.isEmpty then [] else Tryz.f4.params.toList.map fun t => match Tryz.prog.underlying t with | some (.int k) => some k | _ => none))) = true := by kernel_rfl
theorem j29 : ((Rows.auditOptimalRow.pinned == Rows.auditOptimalRow.pinnedBy)) = true := by kernel_rfl
theorem j30 : ((Rows.auditOptimalRow.veiled == (Tryz.f4.params.toList ++ Rows.auditOptimalSpec.plain.varTypes Tryz.prog ++ Tryz.f4.resultTypes.toList).any (Tryz.prog.veiledRec ·))) = true := by kernel_rfl
theorem j31 : (Rows.auditOptimalRow.veiledFits Tryz.prog Tryz.f4.params.toList (Tryz.f4.params.toList ++ Rows.auditOptimalSpec.plain.varTypes Tryz.prog ++ Tryz.f4.resultTypes.toList)) = true := by kernel_rfl
theorem joined : joinedFacts Tryz.prog 4 Tryz.f4 Rows.auditOptimalSpec Rows.auditOptimalRow = true :=
  andT (andT (andT (andT (andT (andT (andT (andT (andT (andT (andT (andT (andT (andT (andT (andT (andT (andT (andT (andT (andT (andT (andT (andT (andT (andT (andT (andT (andT (andT (andT j0 jP1) jP2) j3) j4) j5) jP6) j7) jP8) j9) j10) j11) j12) j13) j14) j15) j16) j17) j18) j19) j20) j21) j22) j23) jP24) jP25) j26) j27) j28) j29) j30) j31
theorem auditOptimal_holds : Rows.AuditOptimalSaid :=
  OpenClaim.holds_of_wide 4 Tryz.f4 rfl rfl rfl rfl rfl rfl rfl ⟨rfl, rfl, rfl, rfl, rfl⟩ rfl rfl rfl rfl rfl (by kernel_rfl) Tryz.func4 joined
    (of_decide_eq_true (by kernel_rfl)) (by unfold Func.isWrapper; first | (rw [if_pos (by decide +kernel)]; kernel_rfl) | (rw [if_neg (by decide +kernel)]; exact ⟨rfl, rfl⟩))
    (fun os started H enc _ => auditOptimal_lifted os started H enc)
end Go.Proofs.YtdjmknhhdkjklaaGreat
