/-
  Costs of choices, valid or not: the program's and the reference's; few curves.
-/
import Derived.Test.YtdjmknhhdkjklaaGreat28c
set_option linter.unusedVariables false
set_option linter.unusedSimpArgs false
set_option maxRecDepth 100000
namespace Go.Proofs.YtdjmknhhdkjklaaGreat
open Go.Os
open Go.ChangeShapes Go.WideShapes Go.ChangeAt Go.RowKit
def badC (cs : CL) (w : IL) (i : Nat) : Prop := gI w i < 0 ∨ (((gC cs i).1.length : Nat) : Int) ≤ gI w i
theorem inC_or (cs : CL) (w : IL) (hl : w.length = cs.length) : inC cs w ∨ ∃ i, i < cs.length ∧ badC cs w i := by
  by_cases h : ∃ i, i < cs.length ∧ badC cs w i
  · exact Or.inr h
  · refine Or.inl ⟨hl, fun i hi => ?_⟩
    have hb : ¬ badC cs w i := fun hb => h ⟨i, hi, hb⟩
    unfold badC at hb
    exact ⟨(gI w i).toNat, by omega, by omega⟩
section
variable {cs : CL} (V : ∀ i, i < cs.length → VC (gC cs i).1 (gC cs i).2) (hc : cs.length ≤ 40)
include V hc
theorem L14_bad {w : IL} (hl : w.length = cs.length) (k0 : List R → Int → Int → Int → Option Unit) (k1 : List R → Int → Int → Option Unit) : ∀ (cnt j n : Nat) (x y : Int), j + cnt = cs.length → cnt < n → (∃ i, j ≤ i ∧ i < cs.length ∧ badC cs w i) →
    L14_7_0 re rk 5000 n k0 k1 (ints w) x y (curs cs) ((cs.length : Nat) : Int) (j : Int) = k0 (ints w) 0 0 2 := by
  intro cnt
  induction cnt with
  | zero => intro j n x y h hn ⟨i, h1, h2, _⟩; omega
  | succ cnt ih =>
    intro j n x y h hn hb
    obtain ⟨n, rfl⟩ : ∃ n', n = n' + 1 := ⟨n - 1, by omega⟩
    have hlt : decide ((j : Int) < ((cs.length : Nat) : Int)) = true := decide_eq_true (by omega)
    have h1 : j < cs.length := by omega
    have h2 : j < w.length := by omega
    have hdl := (V j h1).1
    simp only [L14_7_0, GL14_7_0, e_lss, e_geq, hlt, len_curs, len_ints, e_on, e_ix h1, e_ix h2, okE_curs h1, okE_ints h2, cl_curs0, cl_curs1, ci_ints]
    by_cases a : gI w j < 0
    · simp only [decide_eq_true a]
    · simp only [decide_eq_false a]
      by_cases b : (((gC cs j).1.length : Nat) : Int) ≤ gI w j
      · simp only [decide_eq_true b]
      · simp only [decide_eq_false b]
        obtain ⟨v, hv⟩ : ∃ v : Nat, gI w j = (v : Int) := ⟨(gI w j).toNat, by omega⟩
        have e2 : v < (gC cs j).1.length := by omega
        have e3 : v < (gC cs j).2.length := by omega
        simp only [hv, e_ix e2, e_ix e3, okE_ints e2, okE_ints e3, e_inc (show j < 4611686018427387904 by omega)]
        refine ih (j + 1) n _ _ (by omega) (by omega) ?_
        obtain ⟨i, i1, i2, i3⟩ := hb
        refine ⟨i, ?_, i2, i3⟩
        by_cases e : i = j
        · subst e
          unfold badC at i3
          omega
        · omega
theorem L16_bad {w : IL} (hl : w.length = cs.length) (k0 : List R → Int → Int → Int → Option Unit) (k1 : List R → Int → Int → Option Unit) : ∀ (cnt j n : Nat) (x y : Int), j + cnt = cs.length → cnt < n → (∃ i, j ≤ i ∧ i < cs.length ∧ badC cs w i) →
    L16_7_0 re rk 5000 n k0 k1 (ints w) x y (curs cs) ((cs.length : Nat) : Int) (j : Int) = k0 (ints w) 0 0 2 := by
  intro cnt
  induction cnt with
  | zero => intro j n x y h hn ⟨i, h1, h2, _⟩; omega
  | succ cnt ih =>
    intro j n x y h hn hb
    obtain ⟨n, rfl⟩ : ∃ n', n = n' + 1 := ⟨n - 1, by omega⟩
    have hlt : decide ((j : Int) < ((cs.length : Nat) : Int)) = true := decide_eq_true (by omega)
    have h1 : j < cs.length := by omega
    have h2 : j < w.length := by omega
    have hdl := (V j h1).1
    simp only [L16_7_0, GL16_7_0, e_lss, e_geq, hlt, len_curs, len_ints, e_on, e_ix h1, e_ix h2, okE_curs h1, okE_ints h2, cl_curs0, cl_curs1, ci_ints]
    by_cases a : gI w j < 0
    · simp only [decide_eq_true a]
    · simp only [decide_eq_false a]
      by_cases b : (((gC cs j).1.length : Nat) : Int) ≤ gI w j
      · simp only [decide_eq_true b]
      · simp only [decide_eq_false b]
        obtain ⟨v, hv⟩ : ∃ v : Nat, gI w j = (v : Int) := ⟨(gI w j).toNat, by omega⟩
        have e2 : v < (gC cs j).1.length := by omega
        have e3 : v < (gC cs j).2.length := by omega
        simp only [hv, e_ix e2, e_ix e3, okE_ints e2, okE_ints e3, e_inc (show j < 4611686018427387904 by omega)]
        refine ih (j + 1) n _ _ (by omega) (by omega) ?_
        obtain ⟨i, i1, i2, i3⟩ := hb
        refine ⟨i, ?_, i2, i3⟩
        by_cases e : i = j
        · subst e
          unfold badC at i3
          omega
        · omega
theorem L16_v {w : IL} (hw : inC cs w) (k0 : List R → Int → Int → Int → Option Unit) (k1 : List R → Int → Int → Option Unit) : ∀ (cnt j n : Nat), j + cnt = cs.length → cnt < n →
    L16_7_0 re rk 5000 n k0 k1 (ints w) (sm (fun j => gI (gC cs j).1 (gI w j).toNat) j) (sm (fun j => gI (gC cs j).2 (gI w j).toNat) j) (curs cs) ((cs.length : Nat) : Int) (j : Int) = k1 (ints w) (cR cs w) (cD cs w) := by
  intro cnt
  induction cnt with
  | zero =>
    intro j n h hn
    obtain ⟨n, rfl⟩ : ∃ n', n = n' + 1 := ⟨n - 1, by omega⟩
    have hlt : decide ((j : Int) < ((cs.length : Nat) : Int)) = false := decide_eq_false (by omega)
    simp only [L16_7_0, GL16_7_0, e_lss, hlt]
    unfold cR cD
    rw [show cs.length = j by omega]
  | succ cnt ih =>
    intro j n h hn
    obtain ⟨n, rfl⟩ : ∃ n', n = n' + 1 := ⟨n - 1, by omega⟩
    have hlt : decide ((j : Int) < ((cs.length : Nat) : Int)) = true := decide_eq_true (by omega)
    have h1 : j < cs.length := by omega
    have hwl := hw.1
    have h2 : j < w.length := by omega
    obtain ⟨a, e1, e2⟩ := hw.2 j h1
    have hdl := (V j h1).1
    have e3 : a < (gC cs j).2.length := by omega
    have r1 := sm_rng (f := fun j => gI (gC cs j).1 (gI w j).toNat) (M := 65535) j fun i hi => by
      obtain ⟨b, g1, g2⟩ := hw.2 i (by omega)
      simp only [g1, Int.toNat_natCast]
      exact V_r (V i (by omega)) g2
    have r2 := sm_rng (f := fun j => gI (gC cs j).2 (gI w j).toNat) (M := 70368744177664) j fun i hi => by
      obtain ⟨b, g1, g2⟩ := hw.2 i (by omega)
      simp only [g1, Int.toNat_natCast]
      exact V_d (V i (by omega)) g2
    have v1 := V_r (V j h1) e2
    have v2 := V_d (V j h1) e2
    have hneg : decide ((a : Int) < 0) = false := decide_eq_false (by omega)
    have hge : decide ((((gC cs j).1.length : Nat) : Int) ≤ (a : Int)) = false := decide_eq_false (by omega)
    have a1 : re.ar .add .i64 (sm (fun j => gI (gC cs j).1 (gI w j).toNat) j) (gI (gC cs j).1 a) = sm (fun j => gI (gC cs j).1 (gI w j).toNat) (j + 1) := by
      show IntKind.wrap .i64 _ = sm (fun j => gI (gC cs j).1 (gI w j).toNat) j + gI (gC cs j).1 (gI w j).toNat
      rw [e1, Int.toNat_natCast]
      exact wrap64 (by omega) (by omega)
    have a2 : re.ar .add .i64 (sm (fun j => gI (gC cs j).2 (gI w j).toNat) j) (gI (gC cs j).2 a) = sm (fun j => gI (gC cs j).2 (gI w j).toNat) (j + 1) := by
      show IntKind.wrap .i64 _ = sm (fun j => gI (gC cs j).2 (gI w j).toNat) j + gI (gC cs j).2 (gI w j).toNat
      rw [e1, Int.toNat_natCast]
      exact wrap64 (by omega) (by omega)
    simp only [L16_7_0, GL16_7_0, e_lss, e_geq, hlt, len_curs, len_ints, e_on, e_ix h1, e_ix h2, okE_curs h1, okE_ints h2, cl_curs0, cl_curs1, ci_ints, e1, hneg, hge, e_ix e2, e_ix e3, okE_ints e2, okE_ints e3, a1, a2, e_inc (show j < 4611686018427387904 by omega)]
    exact ih (j + 1) n (by omega) (by omega)
theorem F16_v {w : IL} (hw : inC cs w) (k : Int → Int → Int → Option Unit) : F16_0 re rk 5000 (curs cs) (ints w) k = k (cR cs w) (cD cs w) 0 := by
  have e0 : re.cm .neq 0 0 = false := rfl
  have e1 : re.cm .neq ((w.length : Nat) : Int) ((cs.length : Nat) : Int) = false := decide_eq_false (fun h => h (by rw [hw.1]))
  unfold F16_0 G16_0
  simp only [F26_v cs hc, vcs_0 V, e0, len_ints, len_curs, e_on, e1]
  exact L16_v V hc hw (fun _ x4 x5 x6 => k x4 x5 x6) (fun _ x8 x9 => k x8 x9 0) cs.length 0 5000 (by omega) (by omega)
end
theorem cost_v (cs : CL) (hc : cs.length ≤ 40) (w : IL) :
    ((∀ i, i < cs.length → VC (gC cs i).1 (gC cs i).2) ∧ inC cs w ∧ (∀ k : Int → Int → Int → Option Unit, F14_0 re rk 5000 (curs cs) (ints w) k = k (cR cs w) (cD cs w) 0) ∧ ∀ k : Int → Int → Int → Option Unit, F16_0 re rk 5000 (curs cs) (ints w) k = k (cR cs w) (cD cs w) 0)
    ∨ ∃ e, e ≠ 0 ∧ (∀ k : Int → Int → Int → Option Unit, F14_0 re rk 5000 (curs cs) (ints w) k = k 0 0 e) ∧ ∀ k : Int → Int → Int → Option Unit, F16_0 re rk 5000 (curs cs) (ints w) k = k 0 0 e := by
  by_cases hv : vcs cs = 0
  · have V := vcs_all hv
    by_cases hl : w.length = cs.length
    · rcases inC_or cs w hl with hw | ⟨i, h1, h2⟩
      · exact Or.inl ⟨V, hw, fun k => F14_v V hc hw k, fun k => F16_v V hc hw k⟩
      · have e0 : re.cm .neq 0 0 = false := rfl
        have e1 : re.cm .neq ((w.length : Nat) : Int) ((cs.length : Nat) : Int) = false := decide_eq_false (fun h => h (by rw [hl]))
        refine Or.inr ⟨2, by omega, fun k => ?_, fun k => ?_⟩
        · unfold F14_0 G14_0
          simp only [F17_v cs hc, hv, e0, len_ints, len_curs, e_on, e1]
          exact L14_bad V hc hl (fun _ x4 x5 x6 => k x4 x5 x6) (fun _ x8 x9 => k x8 x9 0) cs.length 0 5000 0 0 (by omega) (by omega) ⟨i, by omega, h1, h2⟩
        · unfold F16_0 G16_0
          simp only [F26_v cs hc, hv, e0, len_ints, len_curs, e_on, e1]
          exact L16_bad V hc hl (fun _ x4 x5 x6 => k x4 x5 x6) (fun _ x8 x9 => k x8 x9 0) cs.length 0 5000 0 0 (by omega) (by omega) ⟨i, by omega, h1, h2⟩
    · have e0 : re.cm .neq 0 0 = false := rfl
      have e1 : re.cm .neq ((w.length : Nat) : Int) ((cs.length : Nat) : Int) = true := decide_eq_true (by omega)
      refine Or.inr ⟨4, by omega, fun k => ?_, fun k => ?_⟩
      · unfold F14_0 G14_0
        simp only [F17_v cs hc, hv, e0, len_ints, len_curs, e_on, e1]
      · unfold F16_0 G16_0
        simp only [F26_v cs hc, hv, e0, len_ints, len_curs, e_on, e1]
  · have e0 : re.cm .neq (vcs cs) 0 = true := decide_eq_true hv
    refine Or.inr ⟨vcs cs, hv, fun k => ?_, fun k => ?_⟩
    · unfold F14_0 G14_0
      simp only [F17_v cs hc, e0]
    · unfold F16_0 G16_0
      simp only [F26_v cs hc, e0]
def fewC (cs : CL) (i : Nat) : Bool := !(decide (40 < (gC cs i).1.length)) && !(decide (40 < (gC cs i).2.length))
theorem L10_v (cs : CL) (k0 : Bool → Option Unit) (k1 : Option Unit) (hc : cs.length ≤ 40) : ∀ (cnt j n : Nat), j + cnt = cs.length → cnt < n →
    L10_4_0 re rk 5000 n k0 k1 (curs cs) ((cs.length : Nat) : Int) (j : Int) = match allB (fewC cs) cnt j with | true => k1 | false => k0 false := by
  intro cnt
  induction cnt with
  | zero =>
    intro j n h hn
    obtain ⟨n, rfl⟩ : ∃ n', n = n' + 1 := ⟨n - 1, by omega⟩
    have hlt : decide ((j : Int) < ((cs.length : Nat) : Int)) = false := decide_eq_false (by omega)
    simp only [L10_4_0, GL10_4_0, e_lss, hlt, allB]
  | succ cnt ih =>
    intro j n h hn
    obtain ⟨n, rfl⟩ : ∃ n', n = n' + 1 := ⟨n - 1, by omega⟩
    have hlt : decide ((j : Int) < ((cs.length : Nat) : Int)) = true := decide_eq_true (by omega)
    have h1 : j < cs.length := by omega
    simp only [L10_4_0, GL10_4_0, e_lss, hlt, len_curs, e_ix h1, okE_curs h1, cl_curs0, cl_curs1, len_ints, e_on, e_gtr, e_inc (show j < 4611686018427387904 by omega), ih (j + 1) n (by omega) (by omega), allB, fewC]
    by_cases a : 40 < (gC cs j).1.length
    · simp only [decide_eq_true a, decide_eq_true (show (40 : Int) < (((gC cs j).1.length : Nat) : Int) by omega), Bool.not_true, Bool.false_and]
    · simp only [decide_eq_false a, decide_eq_false (show ¬ (40 : Int) < (((gC cs j).1.length : Nat) : Int) by omega), Bool.not_false, Bool.true_and]
      by_cases b : 40 < (gC cs j).2.length
      · simp only [decide_eq_true b, decide_eq_true (show (40 : Int) < (((gC cs j).2.length : Nat) : Int) by omega), Bool.not_true]
      · simp only [decide_eq_false b, decide_eq_false (show ¬ (40 : Int) < (((gC cs j).2.length : Nat) : Int) by omega), Bool.not_false]
end Go.Proofs.YtdjmknhhdkjklaaGreat
