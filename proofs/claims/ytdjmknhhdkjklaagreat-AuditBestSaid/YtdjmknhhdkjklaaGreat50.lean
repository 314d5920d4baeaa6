/-
  AuditBest: the law answers true for every input.
-/
import Derived.Test.YtdjmknhhdkjklaaGreat47a
import Derived.Test.YtdjmknhhdkjklaaGreatJ
set_option linter.unusedVariables false
set_option linter.unusedSimpArgs false
set_option maxRecDepth 100000
namespace Go.Proofs.YtdjmknhhdkjklaaGreat
open Go.Os
open Go.ChangeShapes Go.WideShapes Go.ChangeAt Go.RowKit
abbrev shCu : Sh := .sl 2 (.ag [.sl 1 (.i .i64), .sl 1 (.i .i64)])
abbrev shTs : Sh := .sl 1 (.i .i64)
theorem be_refl (x : Bool) : re.be x x = true := by cases x <;> rfl
theorem F10_v (cs : CL) (b : IL) : ∃ v, (∀ k : Bool → Option Unit, F10_1 re rk 5000 (curs cs) (ints b) k = k v) ∧ (v = true → cs.length ≤ 40 ∧ ∀ i, i < cs.length → (gC cs i).1.length ≤ 40) := by
  have z : decide ((50 : Int) < ((0 : Nat) : Int)) = false := rfl
  unfold F10_1 G10_1
  simp only [len_curs, len_ints, e_on, e_gtr, z]
  by_cases h : 40 < cs.length
  · exact ⟨false, fun k => by simp only [decide_eq_true (show (40 : Int) < ((cs.length : Nat) : Int) by omega)], fun h => by cases h⟩
  · simp only [decide_eq_false (show ¬ (40 : Int) < ((cs.length : Nat) : Int) by omega)]
    cases decide ((50 : Int) < ((b.length : Nat) : Int)) with
    | true => exact ⟨false, fun k => rfl, fun h => by cases h⟩
    | false =>
      refine ⟨allB (fewC cs) cs.length 0, fun k => ?_, fun hb => ⟨by omega, fun i hi => ?_⟩⟩
      · refine (L10_v cs (fun x => k x) (k true) (by omega) cs.length 0 5000 (by omega) (by omega)).trans ?_
        cases allB (fewC cs) cs.length 0 <;> rfl
      · have := allB_iff.1 hb i (by omega) (by omega)
        unfold fewC at this
        simp only [Bool.and_eq_true, Bool.not_eq_true', decide_eq_false_iff_not] at this
        omega
theorem p5 (cs : CL) (t : Int) (ht' : t ≤ 9223372036854775807) (b : IL) : F5_0 re rk 5000 (curs cs) t (ints b) (fun y => yes (T.r (R.b y)) []) = some () := by
  obtain ⟨v, hv, hc⟩ := F10_v cs b
  have z1 : re.cm .eql 0 0 = true := rfl
  have z2 : re.cm .neq 0 0 = false := rfl
  have y2 : ∀ {e : Int}, e ≠ 0 → re.cm .neq e 0 = true := fun h => decide_eq_true h
  unfold F5_0 G5_0
  simp only [e_lss]
  by_cases ht : t < 0
  · simp only [decide_eq_true ht]; rfl
  · simp only [decide_eq_false ht, hv, e_bn]
    cases v with
    | false => rfl
    | true =>
      obtain ⟨hc, hm⟩ := hc rfl
      simp only [Bool.not_true]
      by_cases hvc : vcs cs = 0
      · have V := vcs_all hvc
        simp only [F13_v V hc hm t (by omega) ht', z2]
        rcases cost_v cs hc b with ⟨_, hb, b1, b2⟩ | ⟨e, eb, b1, b2⟩
        · obtain ⟨_, g1, g2⟩ := best V (show 0 ≤ t by omega) hb
          simp only [b1, z2, F11_0, G11_0, F16_v V hc g2, b2, z1, e_gtr, e_geq]
          by_cases hr : cR cs (chs cs t) < cR cs b
          · simp only [decide_eq_true hr]; rfl
          · have hd : cD cs (chs cs t) ≤ cD cs b := by
              by_cases h : cD cs (chs cs t) ≤ cD cs b
              · exact h
              · exact absurd ⟨by omega, by omega⟩ g1
            simp only [decide_eq_false hr, decide_eq_true hd]; rfl
        · simp only [b1, y2 eb]; rfl
      · unfold F13_0 G13_0
        simp only [F17_v cs hc, y2 hvc]; rfl
theorem r5 (xs : List R) (h : shOKL [shCu, .i .i64, shTs] xs) : ∃ n, runF Tryz.prog re Hn n 5 (xs.map T.r) = some (.r (.b true), []) := by
  obtain ⟨_, _, rfl, ⟨l1, rfl, _, hl1⟩, _, _, rfl, ⟨t, rfl, _, ht⟩, _, _, rfl, ⟨l3, rfl, _, hl3⟩, rfl⟩ := h
  obtain ⟨cs, rfl⟩ := curs_of hl1
  obtain ⟨b, rfl, _⟩ := ints_of hl3
  exact law_of_snd (o5_0 5000) (g := fun kk => F5_0 re rk 5000 (curs cs) t (ints b) (fun y => kk (T.r (R.b y)) [])) rfl (p5 cs t ht b)
theorem auditBest_lifted (os : Os) (started : os.Started) (H : Type) (enc : TypeId × Value → H) :
    ReturnsInHanded {} Tryz.checked os 5 .any (Rows.auditBestSpec.pre6 enc Tryz.prog Tryz.f5 Rows.auditBestRow.domain false) (Rows.auditBestSpec.post enc Tryz.prog Tryz.f5 false true false false) := by
  refine returnsInHanded_of_change (C := Tryz.checked) own started (by kernel_rfl) Tryz.func5
    (ChangeSpec.witness6 (enc := enc) (C := Tryz.checked) false ⟨#[], #[.slice none 0 0, .int .i64 0, .slice none 0 0], []⟩ 5 (by kernel_rfl) (by kernel_rfl) (by kernel_rfl) (by kernel_rfl)) ?_
  intro W base args ds gs before hval hW hcnd _
  exact law_contract (tb := Tryz.f5.resultTypes.getD 0 0) (shs := [shCu, .i .i64, shTs]) (m := 9) mixed noRoutine laidOut Hn rfl (fun ds h => by
    match ds, h with
    | [a, b, c], _ => rfl) (by kernel_rfl) (by kernel_rfl) (reads_ok (by kernel_rfl)) (by kernel_rfl) r5 hval hW
theorem j0 : (Rows.auditBestRow.wf (OpenSpec.ofChange Rows.auditBestSpec)) = true := by kernel_rfl
theorem j3 : (Tryz.f5.params.all (Tryz.prog.readableRec ·)) = true := by kernel_rfl
theorem j4 : (namedTie Tryz.prog Rows.auditBestRow.named Rows.auditBestSpec.vars) = true := by kernel_rfl
theorem j5 : ((Rows.auditBestRow.stops == [])) = true := by kernel_rfl
theorem j7 : ((Rows.auditBestRow.knobs == [])) = true := by kernel_rfl
theorem j9 : ((Rows.auditBestRow.inPlace == Tryz.prog.inPlace 5)) = true := by kernel_rfl
theorem j10 : ((Rows.auditBestRow.unfollowed == Tryz.prog.unfollowed 5)) = true := by kernel_rfl
theorem j11 : ((Rows.auditBestRow.recurses == Tryz.prog.recurses 5)) = true := by kernel_rfl
theorem j12 : ((Rows.auditBestRow.named == Tryz.prog.varsNamed 5)) = true := by kernel_rfl
theorem j13 : ((Rows.auditBestRow.maps == (Tryz.f5.params.toList ++ Rows.auditBestSpec.plain.varTypes Tryz.prog).any (Tryz.prog.mapsRec ·))) = true := by kernel_rfl
theorem j14 : ((Rows.auditBestRow.ifaces == (Tryz.f5.params.toList ++ Rows.auditBestSpec.plain.varTypes Tryz.prog).any (Tryz.prog.ifacesRec ·))) = true := by kernel_rfl
theorem j15 : ((Rows.auditBestRow.mapsOut == Tryz.prog.mapsAmong Tryz.f5.resultTypes.toList)) = true := by kernel_rfl
theorem j16 : ((Rows.auditBestRow.loops == (Tryz.f5.params.toList ++ Rows.auditBestSpec.plain.varTypes Tryz.prog).any (Tryz.prog.loopsFrom ·))) = true := by kernel_rfl
theorem j17 : ((Rows.auditBestRow.wideKeys == (Tryz.f5.params.toList ++ Rows.auditBestSpec.plain.varTypes Tryz.prog ++ Tryz.f5.resultTypes.toList).any (Tryz.prog.wideKeysFrom ·))) = true := by kernel_rfl
theorem j18 : (Rows.auditBestSpec.vars.all (Tryz.prog.varReadable ·)) = true := by kernel_rfl
theorem j19 : (Tryz.f5.resultTypes.all (fun t => Tryz.prog.readableRec t && decide (t < Tryz.prog.types.size))) = true := by kernel_rfl
theorem j20 : ((Rows.auditBestRow.ifacesOut == Tryz.f5.resultTypes.toList.any (Tryz.prog.ifacesRec ·))) = true := by kernel_rfl
theorem j21 : ((Rows.auditBestRow.loopsOut == Tryz.f5.resultTypes.toList.any (Tryz.prog.loopsFrom ·))) = true := by kernel_rfl
theorem j22 : ((Rows.auditBestRow.plainKeys == Tryz.prog.plainKeys)) = true := by kernel_rfl
theorem j23 : (Rows.auditBestRow.shortTexts.isNone) = true := by kernel_rfl
theorem j26 : ((Rows.auditBestRow.lifted == Tryz.prog.liftsFinal)) = true := by kernel_rfl
theorem j27 : ((Tryz.prog.make == some Rows.auditBestRow.make)) = true := by kernel_rfl
theorem j28 : ((Rows.auditBestRow.kinds == (if Rows.auditBestRow.domain.isEmpty then [] else Tryz.f5.params.toList.map fun t => match Tryz.prog.underlying t with | some (.int k) => some k | _ => none))) = true := by kernel_rfl
theorem j29 : ((Rows.auditBestRow.pinned == Rows.auditBestRow.pinnedBy)) = true := by kernel_rfl
theorem j30 : ((Rows.auditBestRow.veiled == (Tryz.f5.params.toList ++ Rows.auditBestSpec.plain.varTypes Tryz.prog ++ Tryz.f5.resultTypes.toList).any (Tryz.prog.veiledRec ·))) = true := by kernel_rfl
theorem j31 : (Rows.auditBestRow.veiledFits Tryz.prog Tryz.f5.params.toList (Tryz.f5.params.toList ++ Rows.auditBestSpec.plain.varTypes Tryz.prog ++ Tryz.f5.resultTypes.toList)) = true := by kernel_rfl
theorem joined : joinedFacts Tryz.prog 5 Tryz.f5 Rows.auditBestSpec Rows.auditBestRow = true :=
  andT (andT (andT (andT (andT (andT (andT (andT (andT (andT (andT (andT (andT (andT (andT (andT (andT (andT (andT (andT (andT (andT (andT (andT (andT (andT (andT (andT (andT (andT (andT j0 jP1) jP2) j3) j4) j5) jP6) j7) jP8) j9) j10) j11) j12) j13) j14) j15) j16) j17) j18) j19) j20) j21) j22) j23) jP24) jP25) j26) j27) j28) j29) j30) j31
theorem auditBest_holds : Rows.AuditBestSaid :=
  OpenClaim.holds_of_wide 5 Tryz.f5 rfl rfl rfl rfl rfl rfl rfl ⟨rfl, rfl, rfl, rfl, rfl⟩ rfl rfl rfl rfl rfl (by kernel_rfl) Tryz.func5 joined
    (of_decide_eq_true (by kernel_rfl)) (by unfold Func.isWrapper; first | (rw [if_pos (by decide +kernel)]; kernel_rfl) | (rw [if_neg (by decide +kernel)]; exact ⟨rfl, rfl⟩))
    (fun os started H enc _ => auditBest_lifted os started H enc)
end Go.Proofs.YtdjmknhhdkjklaaGreat
