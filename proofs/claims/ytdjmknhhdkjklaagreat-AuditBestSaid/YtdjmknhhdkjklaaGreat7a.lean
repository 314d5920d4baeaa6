/-
  Steeper: the program's and the reference's answer are the same, and what it is.
-/
import Derived.Test.YtdjmknhhdkjklaaGreat7v
set_option linter.unusedVariables false
set_option linter.unusedSimpArgs false
set_option maxRecDepth 100000
namespace Go.Proofs.YtdjmknhhdkjklaaGreat
open Go.Os
open Go.ChangeShapes Go.WideShapes Go.ChangeAt Go.RowKit
def rngS (d r : Int) : Bool := re.cm .leq 0 d && (re.cm .leq d 70368744177664 && (re.cm .leq 0 r && re.cm .leq r 65535))
def stv (d1 r1 d2 r2 : Int) : Int := match rngS d1 r1 && rngS d2 r2 with
  | false => 0
  | true => match infS (d1, r1), infS (d2, r2) with
    | true, true => 0
    | true, false => 1
    | false, true => -1
    | false, false => match decide (d1 * runS (d2, r2) < d2 * runS (d1, r1)) with
      | true => -1
      | false => match decide (d2 * runS (d1, r1) < d1 * runS (d2, r2)) with
        | true => 1
        | false => 0
theorem F45_v (d r : Int) (k : Bool → Option Unit) : F45_0 re rk 5000 d r k = k (rngS d r) := by
  unfold F45_0 G45_0 rngS
  cases re.cm .leq 0 d <;> cases re.cm .leq d 70368744177664 <;> cases re.cm .leq 0 r <;> rfl
theorem rngS_in {d r : Int} (h : rngS d r = true) : 0 ≤ d ∧ d ≤ 70368744177664 ∧ 0 ≤ r ∧ r ≤ 65535 := by
  unfold rngS at h
  simp only [e_leq, Bool.and_eq_true, decide_eq_true_eq] at h
  omega
theorem mul_v {d1 r1 d2 r2 : Int} (h1 : rngS d1 r1 = true) (h2 : rngS d2 r2 = true) : re.ar .mul .i64 d1 (re.mx r2 1) = d1 * runS (d2, r2) := by
  obtain ⟨a1, a2, a3, a4⟩ := rngS_in h1
  obtain ⟨b1, b2, b3, b4⟩ := rngS_in h2
  have e : re.mx r2 1 = runS (d2, r2) := rfl
  rw [e]
  have h3 : 1 ≤ runS (d2, r2) ∧ runS (d2, r2) ≤ 65535 := by unfold runS; simp only; split <;> omega
  have h4 : 0 ≤ d1 * runS (d2, r2) := Int.mul_nonneg a1 (by omega)
  have h5 := Int.mul_le_mul a2 h3.2 (by omega) (show (0 : Int) ≤ 70368744177664 by omega)
  exact wrap64 (by omega) (by omega)
theorem F29_v (d1 r1 d2 r2 : Int) (k : Int → Option Unit) : F29_0 re rk 5000 d1 r1 d2 r2 k = k (stv d1 r1 d2 r2) := by
  unfold F29_0 G29_0 stv
  simp only [F45_v, e_bn]
  cases h1 : rngS d1 r1 with
  | false => rfl
  | true => cases h2 : rngS d2 r2 with
    | false => rfl
    | true =>
      simp only [mul_v h1 h2, mul_v h2 h1, e_eql, e_gtr, e_lss, infS]
      generalize d1 * runS (d2, r2) = u
      generalize d2 * runS (d1, r1) = v
      have huv : decide (v < u) = true → decide (u < v) = false := fun h => decide_eq_false (by have := of_decide_eq_true h; omega)
      cases e1 : decide (r1 = 0) <;> cases e2 : decide (r2 = 0) <;> cases e3 : decide (0 < d1) <;> cases e4 : decide (0 < d2) <;> cases e5 : decide (v < u) <;> cases e6 : decide (u < v) <;> first | rfl | (rw [huv e5] at e6; cases e6)
theorem stv_gt {d1 r1 d2 r2 : Int} (h1 : rngS d1 r1 = true) (h2 : rngS d2 r2 = true) : re.cm .gtr (stv d1 r1 d2 r2) 0 = gtS (d1, r1) (d2, r2) := by
  unfold stv gtS
  rw [h1, h2]
  cases infS (d1, r1) <;> cases infS (d2, r2)
  · simp only [Bool.and_self]
    have huv : decide (d2 * runS (d1, r1) < d1 * runS (d2, r2)) = true → decide (d1 * runS (d2, r2) < d2 * runS (d1, r1)) = false := fun h => decide_eq_false (by have := of_decide_eq_true h; omega)
    cases e5 : decide (d2 * runS (d1, r1) < d1 * runS (d2, r2)) with
    | true => rw [huv e5]; rfl
    | false => cases decide (d1 * runS (d2, r2) < d2 * runS (d1, r1)) <;> rfl
  · rfl
  · rfl
  · rfl
end Go.Proofs.YtdjmknhhdkjklaaGreat
