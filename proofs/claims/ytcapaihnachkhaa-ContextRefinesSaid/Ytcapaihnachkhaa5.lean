/-
  ContextRefines: the law answers true for every input.
-/
import Derived.Test.Ytcapaihnachkhaa3
set_option linter.unusedVariables false
set_option maxRecDepth 100000
namespace Go.Proofs.Ytcapaihnachkhaa
open Go.Os
open Go.ChangeShapes Go.WideShapes Go.ChangeAt Go.RowKit

theorem wrap64 {x : Int} (h : -9223372036854775808 ≤ x) (h' : x ≤ 9223372036854775807) : IntKind.wrap .i64 x = x := by
  unfold IntKind.wrap
  simp [IntKind.bits, IntKind.signed]
  omega

/-- The contribution, as the program and the reference compute it. -/
def contP (a b : Int) : Int := if 0 ≤ a ∧ 0 ≤ b then re.mx (re.mn (re.mx a 0) 1) (re.mn (re.mx b 0) 1) else if a < 0 ∧ b < 0 then -1 else re.mn (re.mx (IntKind.wrap .i64 (a + b)) (-1)) 1
def contR (a b : Int) : Int := if 0 < a ∧ 0 < b then 1 else if a < 0 ∧ b < 0 then -1 else re.mn (re.mx (IntKind.wrap .i64 (a + b)) (-1)) 1

theorem F20_v {β : Type} (N : Nat) (a b : Int) (k : Int → Option β) : F20_16 re rk N a b k = k (contP a b) := by
  unfold F20_16 F39_2 contP
  have h1 : re.cm .geq a 0 = decide (0 ≤ a) := rfl
  have h2 : re.cm .geq b 0 = decide (0 ≤ b) := rfl
  have h3 : re.cm .lss a 0 = decide (a < 0) := rfl
  have h4 : re.cm .lss b 0 = decide (b < 0) := rfl
  have h5 : re.ar .add .i64 a b = IntKind.wrap .i64 (a + b) := rfl
  rw [h1, h2, h3, h4, h5]
  by_cases ha : 0 ≤ a <;> by_cases hb : 0 ≤ b
  · simp [ha, hb]
  · have hb' : b < 0 := by omega
    have : ¬ a < 0 := by omega
    simp [ha, hb, hb', this]
  · have ha' : a < 0 := by omega
    have : ¬ b < 0 := by omega
    simp [ha, hb, ha', this]
  · have ha' : a < 0 := by omega
    have hb' : b < 0 := by omega
    simp [ha, hb, ha', hb']

theorem F21_v {β : Type} (N : Nat) (a b : Int) (k : Int → Option β) : F21_17 re rk N a b k = k (contR a b) := by
  unfold F21_17 F42_6 contR
  have h1 : re.cm .gtr a 0 = decide (0 < a) := rfl
  have h2 : re.cm .gtr b 0 = decide (0 < b) := rfl
  have h3 : re.cm .lss a 0 = decide (a < 0) := rfl
  have h4 : re.cm .lss b 0 = decide (b < 0) := rfl
  have h5 : re.ar .add .i64 a b = IntKind.wrap .i64 (a + b) := rfl
  rw [h1, h2, h3, h4, h5]
  by_cases ha : 0 < a <;> by_cases hb : 0 < b <;> by_cases ha' : a < 0 <;> by_cases hb' : b < 0 <;> simp [ha, hb, ha', hb']

theorem cont_eq {a b : Int} (ha : -9223372036854775808 ≤ a) (ha' : a ≤ 9223372036854775807) (hb : -9223372036854775808 ≤ b) (hb' : b ≤ 9223372036854775807) : contP a b = contR a b := by
  unfold contP contR
  by_cases h1 : 0 ≤ a ∧ 0 ≤ b
  · rw [if_pos h1]
    by_cases h2 : 0 < a ∧ 0 < b
    · rw [if_pos h2]
      simp only [re]
      repeat' split
      all_goals omega
    · rw [if_neg h2, if_neg (by omega), wrap64 (by omega) (by omega)]
      simp only [re]
      repeat' split
      all_goals omega
  · rw [if_neg h1]
    by_cases h2 : a < 0 ∧ b < 0
    · rw [if_pos h2, if_neg (by omega)]
    · rw [if_neg h2, if_neg (by omega)]

theorem p5 (N : Nat) (u v : Bool) {a b : Int} (ha : -9223372036854775808 ≤ a) (ha' : a ≤ 9223372036854775807) (hb : -9223372036854775808 ≤ b) (hb' : b ≤ 9223372036854775807) : F5_13 re rk N u v a b (fun y => yes (T.r (R.b y)) []) = some () := by
  have e : ∀ x : Int, re.cm .eql x x = true := fun x => by simp [re, cmI]
  unfold F5_13
  simp only [F20_v, F21_v, cont_eq ha ha' hb hb', e]
  cases u <;> cases v <;> rfl

theorem r5 (xs : List R) (h : shOKL [.ag [.b, .b], .i .i64, .i .i64] xs) : ∃ n, runF Try.prog re Hn n 5 (xs.map T.r) = some (.r (.b true), []) := by
  obtain ⟨_, _, rfl, ⟨l, rfl, hl⟩, _, _, rfl, ⟨a, rfl, ha, ha'⟩, _, _, rfl, ⟨b, rfl, hb, hb'⟩, rfl⟩ := h
  obtain ⟨_, _, rfl, ⟨u, rfl⟩, _, _, rfl, ⟨v, rfl⟩, rfl⟩ := hl
  exact law_of_snd (o5_13 0) (g := fun kk => F5_13 re rk 0 u v a b (fun y => kk (T.r (R.b y)) [])) rfl (p5 0 u v ha ha' hb hb')

theorem contextRefines_lifted (os : Os) (started : os.Started) (H : Type) (enc : TypeId × Value → H) :
    ReturnsInHanded {} Try.checked os 5 .any (Rows.contextRefinesSpec.pre6 enc Try.prog Try.f5 Rows.contextRefinesRow.domain false) (Rows.contextRefinesSpec.post enc Try.prog Try.f5 false true false false) := by
  refine returnsInHanded_of_change (C := Try.checked) own started (by kernel_rfl) Try.func5
    (ChangeSpec.witness6 (enc := enc) (C := Try.checked) false ⟨#[], #[.agg #[.bool true, .bool true], .int .i64 0, .int .i64 0], []⟩ 8 (by kernel_rfl) (by kernel_rfl) (by kernel_rfl) (by kernel_rfl)) ?_
  intro W base args ds gs before hval hW hcnd _
  exact law_contract (tb := Try.f5.resultTypes.getD 0 0) (shs := [.ag [.b, .b], .i .i64, .i .i64]) (m := 9) mixed noRoutine laidOut Hn rfl (fun ds h => by
    match ds, h with
    | [a, b, c], _ => rfl) (by kernel_rfl) (by kernel_rfl) (reads_ok (by kernel_rfl)) (by kernel_rfl) r5 hval hW

theorem contextRefines_holds : Rows.ContextRefinesSaid :=
  OpenClaim.holds_of_wide 5 Try.f5 rfl rfl rfl rfl rfl rfl rfl ⟨rfl, rfl, rfl, rfl, rfl⟩ rfl rfl rfl rfl rfl (by kernel_rfl) Try.func5 (by kernel_rfl)
    (of_decide_eq_true (by kernel_rfl)) (by unfold Func.isWrapper; first | (rw [if_pos (by decide +kernel)]; kernel_rfl) | (rw [if_neg (by decide +kernel)]; exact ⟨rfl, rfl⟩))
    (fun os started H enc _ => contextRefines_lifted os started H enc)

end Go.Proofs.Ytcapaihnachkhaa
