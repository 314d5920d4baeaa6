/-
  Costs.
-/
import Derived.Test.YtdjmknhhdkjklaaGreat28b
set_option linter.unusedVariables false
set_option linter.unusedSimpArgs false
set_option maxRecDepth 100000
namespace Go.Proofs.YtdjmknhhdkjklaaGreat
open Go.Os
open Go.ChangeShapes Go.WideShapes Go.ChangeAt Go.RowKit
theorem sm_rng {f : Nat → Int} {M : Int} : ∀ n, (∀ j, j < n → 0 ≤ f j ∧ f j ≤ M) → 0 ≤ sm f n ∧ sm f n ≤ M * (n : Int)
  | 0, _ => by constructor <;> (show _ ≤ _; simp [sm])
  | n + 1, h => by
    have ih := sm_rng n fun j hj => h j (by omega)
    have := h n (by omega)
    have e : M * ((n + 1 : Nat) : Int) = M * (n : Int) + M := by
      rw [show ((n + 1 : Nat) : Int) = (n : Int) + 1 by omega, Int.mul_add, Int.mul_one]
    rw [e]
    show 0 ≤ sm f n + f n ∧ sm f n + f n ≤ _
    omega
section
variable {cs : CL} (V : ∀ i, i < cs.length → VC (gC cs i).1 (gC cs i).2) (hc : cs.length ≤ 40)
include V hc
theorem L14_v {w : IL} (hw : inC cs w) (k0 : List R → Int → Int → Int → Option Unit) (k1 : List R → Int → Int → Option Unit) : ∀ (cnt j n : Nat), j + cnt = cs.length → cnt < n →
    L14_7_0 re rk 5000 n k0 k1 (ints w) (sm (fun j => gI (gC cs j).1 (gI w j).toNat) j) (sm (fun j => gI (gC cs j).2 (gI w j).toNat) j) (curs cs) ((cs.length : Nat) : Int) (j : Int) = k1 (ints w) (cR cs w) (cD cs w) := by
  intro cnt
  induction cnt with
  | zero =>
    intro j n h hn
    obtain ⟨n, rfl⟩ : ∃ n', n = n' + 1 := ⟨n - 1, by omega⟩
    have hlt : decide ((j : Int) < ((cs.length : Nat) : Int)) = false := decide_eq_false (by omega)
    simp only [L14_7_0, GL14_7_0, e_lss, hlt]
    unfold cR cD
    rw [show cs.length = j by omega]
  | succ cnt ih =>
    intro j n h hn
    obtain ⟨n, rfl⟩ : ∃ n', n = n' + 1 := ⟨n - 1, by omega⟩
    have hlt : decide ((j : Int) < ((cs.length : Nat) : Int)) = true := decide_eq_true (by omega)
    have h1 : j < cs.length := by omega
    have hwl := hw.1
    have h2 : j < w.length := by omega
    obtain ⟨a, e1, e2⟩ := hw.2 j h1
    have hdl := (V j h1).1
    have e3 : a < (gC cs j).2.length := by omega
    have r1 := sm_rng (f := fun j => gI (gC cs j).1 (gI w j).toNat) (M := 65535) j fun i hi => by
      obtain ⟨b, g1, g2⟩ := hw.2 i (by omega)
      simp only [g1, Int.toNat_natCast]
      exact V_r (V i (by omega)) g2
    have r2 := sm_rng (f := fun j => gI (gC cs j).2 (gI w j).toNat) (M := 70368744177664) j fun i hi => by
      obtain ⟨b, g1, g2⟩ := hw.2 i (by omega)
      simp only [g1, Int.toNat_natCast]
      exact V_d (V i (by omega)) g2
    have v1 := V_r (V j h1) e2
    have v2 := V_d (V j h1) e2
    have hneg : decide ((a : Int) < 0) = false := decide_eq_false (by omega)
    have hge : decide ((((gC cs j).1.length : Nat) : Int) ≤ (a : Int)) = false := decide_eq_false (by omega)
    have a1 : re.ar .add .i64 (sm (fun j => gI (gC cs j).1 (gI w j).toNat) j) (gI (gC cs j).1 a) = sm (fun j => gI (gC cs j).1 (gI w j).toNat) (j + 1) := by
      show IntKind.wrap .i64 _ = sm (fun j => gI (gC cs j).1 (gI w j).toNat) j + gI (gC cs j).1 (gI w j).toNat
      rw [e1, Int.toNat_natCast]
      exact wrap64 (by omega) (by omega)
    have a2 : re.ar .add .i64 (sm (fun j => gI (gC cs j).2 (gI w j).toNat) j) (gI (gC cs j).2 a) = sm (fun j => gI (gC cs j).2 (gI w j).toNat) (j + 1) := by
      show IntKind.wrap .i64 _ = sm (fun j => gI (gC cs j).2 (gI w j).toNat) j + gI (gC cs j).2 (gI w j).toNat
      rw [e1, Int.toNat_natCast]
      exact wrap64 (by omega) (by omega)
    simp only [L14_7_0, GL14_7_0, e_lss, e_geq, hlt, len_curs, len_ints, e_on, e_ix h1, e_ix h2, okE_curs h1, okE_ints h2, cl_curs0, cl_curs1, ci_ints, e1, hneg, hge, e_ix e2, e_ix e3, okE_ints e2, okE_ints e3, a1, a2, e_inc (show j < 4611686018427387904 by omega)]
    exact ih (j + 1) n (by omega) (by omega)
theorem F14_v {w : IL} (hw : inC cs w) (k : Int → Int → Int → Option Unit) : F14_0 re rk 5000 (curs cs) (ints w) k = k (cR cs w) (cD cs w) 0 := by
  have e0 : re.cm .neq 0 0 = false := rfl
  have e1 : re.cm .neq ((w.length : Nat) : Int) ((cs.length : Nat) : Int) = false := decide_eq_false (fun h => h (by rw [hw.1]))
  unfold F14_0 G14_0
  simp only [F17_v cs hc, vcs_0 V, e0, len_ints, len_curs, e_on, e1]
  exact L14_v V hc hw (fun _ x4 x5 x6 => k x4 x5 x6) (fun _ x8 x9 => k x8 x9 0) cs.length 0 5000 (by omega) (by omega)
end
end Go.Proofs.YtdjmknhhdkjklaaGreat
