/-
  EncoderValidates: headers. The program's and the reference's answer are the same.
-/
import Derived.Test.YtcapaihnachkhaaC
set_option linter.unusedVariables false
set_option linter.unusedSimpArgs false
set_option maxRecDepth 100000
namespace Go.Proofs.Ytcapaihnachkhaa
open Go.Os
open Go.ChangeShapes Go.WideShapes Go.ChangeAt Go.RowKit

abbrev shC4 : List Sh := [.i .i64, .b, .i .i64, .i .i64]

theorem hdr_loop1 (a b c d tw th : Int) {l : List R} (hl : ∀ x ∈ l, shOK (.ag shC4) x) (hlen : l.length < 5000) : ∀ (cnt j n m : Nat), l.length - j = cnt → j ≤ l.length → cnt < n → cnt < m →
    ∃ r : Option Int, (∀ (k0 : Int → Int → Int → Int → Int → Int → List R → Int → Option Unit) (k1 : Int → Int → Int → Int → Int → Int → List R → Option Unit), L49_4_0 re rk 5000 n k0 k1 a b c d tw th l (j : Int) = (match r with | some e => k0 a b c d tw th l e | none => k1 a b c d tw th l)) ∧
      (∀ (k0 : Int → Int → Int → Int → Int → Int → List R → Int → Option Unit) (k1 : Int → Int → Int → Int → Int → Int → List R → Option Unit), L45_4_0 re rk 5000 m k0 k1 a b c d tw th l l (re.on (re.len l)) (j : Int) = (match r with | some e => k0 a b c d tw th l e | none => k1 a b c d tw th l)) := by
  intro cnt
  induction cnt with
  | zero =>
    intro j n m h1 h2 hn hm
    obtain ⟨n, rfl⟩ : ∃ n', n = n' + 1 := ⟨n - 1, by omega⟩
    obtain ⟨m, rfl⟩ : ∃ n', m = n' + 1 := ⟨m - 1, by omega⟩
    have hlt : re.cm .lss (j : Int) (re.on (re.len l)) = false := decide_eq_false (by simp only [e_on, e_len]; omega)
    exact ⟨none, fun k0 k1 => by simp only [L49_4_0, GL49_4_0, hlt], fun k0 k1 => by simp only [L45_4_0, GL45_4_0, hlt]⟩
  | succ cnt ih =>
    intro j n m h1 h2 hn hm
    obtain ⟨n, rfl⟩ : ∃ n', n = n' + 1 := ⟨n - 1, by omega⟩
    obtain ⟨m, rfl⟩ : ∃ n', m = n' + 1 := ⟨m - 1, by omega⟩
    have hj : j < l.length := by omega
    have hlt : re.cm .lss (j : Int) (re.on (re.len l)) = true := decide_eq_true (by simp only [e_on, e_len]; omega)
    have hix : re.ix (j : Int) (re.len l) = some j := e_ix hj
    have hok : rk.okE shC4 true l j = true := okE_ag rfl hl hj
    have hinc : re.ar .add .i64 (j : Int) 1 = ((j + 1 : Nat) : Int) := e_inc (by omega)
    obtain ⟨p, q, r, s, h51⟩ := F51_v 5000 a b c d (rk.ci l j 2) (rk.ci l j 3)
    obtain ⟨z, z1, z2⟩ := ih (j + 1) n m (by omega) (by omega) (by omega) (by omega)
    cases c0 : v77 (rk.ci l j 0) 1 16 with
    | false => exact ⟨some 12, fun k0 k1 => by simp only [L49_4_0, GL49_4_0, hlt, hix, hok, F77_v, c0, e_bn, Bool.not_false], fun k0 k1 => by simp only [L45_4_0, GL45_4_0, hlt, hix, hok, F72_1, c0, e_bn, Bool.not_false]⟩
    | true =>
      cases c2 : v77 (rk.ci l j 2) 1 4 with
      | false => exact ⟨some 12, fun k0 k1 => by simp only [L49_4_0, GL49_4_0, hlt, hix, hok, F77_v, c0, c2, e_bn, Bool.not_false, Bool.not_true], fun k0 k1 => by simp only [L45_4_0, GL45_4_0, hlt, hix, hok, F72_1, F72_2, c0, c2, e_bn, Bool.not_false, Bool.not_true, Bool.false_and]⟩
      | true =>
        cases c3 : v77 (rk.ci l j 3) 1 4 with
        | false => exact ⟨some 12, fun k0 k1 => by simp only [L49_4_0, GL49_4_0, hlt, hix, hok, F77_v, c0, c2, c3, e_bn, Bool.not_false, Bool.not_true], fun k0 k1 => by simp only [L45_4_0, GL45_4_0, hlt, hix, hok, F72_1, F72_2, c0, c2, c3, e_bn, Bool.not_false, Bool.not_true, Bool.true_and]⟩
        | true =>
          cases c4 : v66 p q r s with
          | true => exact ⟨some 12, fun k0 k1 => by simp only [L49_4_0, GL49_4_0, hlt, hix, hok, F77_v, F66_v, h51, c0, c2, c3, c4, e_bn, Bool.not_false, Bool.not_true], fun k0 k1 => by simp only [L45_4_0, GL45_4_0, hlt, hix, hok, F72_1, F72_2, F47_eq, F62_eq, F66_v, h51, c0, c2, c3, c4, e_bn, Bool.not_false, Bool.not_true, Bool.true_and]⟩
          | false => exact ⟨z, fun k0 k1 => by simp only [L49_4_0, GL49_4_0, hlt, hix, hok, F77_v, F66_v, h51, c0, c2, c3, c4, e_bn, Bool.not_false, Bool.not_true, hinc, z1], fun k0 k1 => by simp only [L45_4_0, GL45_4_0, hlt, hix, hok, F72_1, F72_2, F47_eq, F62_eq, F66_v, h51, c0, c2, c3, c4, e_bn, Bool.not_false, Bool.not_true, Bool.true_and, hinc, z2]⟩

theorem hdr_loop2 (a b c d tw th : Int) {l : List R} (hl : ∀ x ∈ l, shOK (.ag shC4) x) (hlen : l.length < 5000) : ∀ (cnt j n m : Nat), l.length - j = cnt → j ≤ l.length → cnt < n → cnt < m →
    ∃ r : Option Int, (∀ (k0 : Int → Option Unit) (k1 : Option Unit), L49_12_0 re rk 5000 n k0 k1 a b c d tw th l (j : Int) = (match r with | some e => k0 e | none => k1)) ∧
      (∀ (k0 : Int → Option Unit) (k1 : Option Unit), L45_14_0 re rk 5000 m k0 k1 a b c d tw th l l (re.on (re.len l)) (j : Int) = (match r with | some e => k0 e | none => k1)) := by
  intro cnt
  induction cnt with
  | zero =>
    intro j n m h1 h2 hn hm
    obtain ⟨n, rfl⟩ : ∃ n', n = n' + 1 := ⟨n - 1, by omega⟩
    obtain ⟨m, rfl⟩ : ∃ n', m = n' + 1 := ⟨m - 1, by omega⟩
    have hlt : re.cm .lss (j : Int) (re.on (re.len l)) = false := decide_eq_false (by simp only [e_on, e_len]; omega)
    exact ⟨none, fun k0 k1 => by simp only [L49_12_0, GL49_12_0, hlt], fun k0 k1 => by simp only [L45_14_0, GL45_14_0, hlt]⟩
  | succ cnt ih =>
    intro j n m h1 h2 hn hm
    obtain ⟨n, rfl⟩ : ∃ n', n = n' + 1 := ⟨n - 1, by omega⟩
    obtain ⟨m, rfl⟩ : ∃ n', m = n' + 1 := ⟨m - 1, by omega⟩
    have hj : j < l.length := by omega
    have hlt : re.cm .lss (j : Int) (re.on (re.len l)) = true := decide_eq_true (by simp only [e_on, e_len]; omega)
    have hix : re.ix (j : Int) (re.len l) = some j := e_ix hj
    have hok : rk.okE shC4 true l j = true := okE_ag rfl hl hj
    have hinc : re.ar .add .i64 (j : Int) 1 = ((j + 1 : Nat) : Int) := e_inc (by omega)
    obtain ⟨p, q, r, s, h51⟩ := F51_v 5000 a b c d (rk.ci l j 2) (rk.ci l j 3)
    obtain ⟨z, z1, z2⟩ := ih (j + 1) n m (by omega) (by omega) (by omega) (by omega)
    cases c0 : re.cm .gtr (v79 p q r s) 1048576 with
    | true => exact ⟨some 5, fun k0 k1 => by simp only [L49_12_0, GL49_12_0, hlt, hix, hok, h51, F79_v, c0], fun k0 k1 => by simp only [L45_14_0, GL45_14_0, hlt, hix, hok, F47_eq, F75_eq, h51, F79_v, c0]⟩
    | false => exact ⟨z, fun k0 k1 => by simp only [L49_12_0, GL49_12_0, hlt, hix, hok, h51, F79_v, c0, hinc, z1], fun k0 k1 => by simp only [L45_14_0, GL45_14_0, hlt, hix, hok, F47_eq, F75_eq, h51, F79_v, c0, hinc, z2]⟩

theorem hdr (a b c d tw th : Int) {l : List R} (hl : ∀ x ∈ l, shOK (.ag shC4) x) : ∃ e : Int, (∀ k : Int → Option Unit, F49_3 re rk 5000 a b c d tw th l k = k e) ∧ (∀ k : Int → Option Unit, F45_19 re rk 5000 a b c d tw th l k = k e) := by
  unfold F49_3 G49_3 F45_19 G45_19
  simp only [F61_eq, F62_eq, F65_v, F66_v, F77_v, F72_2, F72_1, e_bn]
  cases v65 a b c d with
  | false => exact ⟨12, fun k => rfl, fun k => rfl⟩
  | true => cases v66 a b c d with
    | true => exact ⟨12, fun k => rfl, fun k => rfl⟩
    | false => cases v77 tw 1 4096 with
      | false => exact ⟨12, fun k => rfl, fun k => rfl⟩
      | true => cases v77 th 1 4096 with
        | false => exact ⟨12, fun k => rfl, fun k => rfl⟩
        | true => cases h4 : v77 (re.on (re.len l)) 1 4 with
          | false => exact ⟨12, fun k => rfl, fun k => rfl⟩
          | true =>
            have hlen : l.length ≤ 4 := by
              unfold v77 at h4
              rw [Bool.and_eq_true] at h4
              have := of_decide_eq_true h4.2
              simp only [e_on, e_len] at this
              omega
            obtain ⟨r, r1, r2⟩ := hdr_loop1 a b c d tw th hl (by omega) l.length 0 5000 5000 (by omega) (by omega) (by omega) (by omega)
            have r1' : ∀ k0 k1, L49_4_0 re rk 5000 5000 k0 k1 a b c d tw th l 0 = _ := r1
            have r2' : ∀ k0 k1, L45_4_0 re rk 5000 5000 k0 k1 a b c d tw th l l (re.on (re.len l)) 0 = _ := r2
            simp only [r1', r2', Bool.not_true, Bool.true_and, Bool.and_true]
            cases r with
            | some e => exact ⟨e, fun k => rfl, fun k => rfl⟩
            | none =>
              unfold F78_9 G78_9
              simp only [F73_eq, F74_eq, F80_v, F105_v]
              cases re.cm .gtr (re.ar .mul .i64 (re.ar .sub .i64 (v80 c tw) (v105 a tw)) (re.ar .sub .i64 (v80 d th) (v105 b th))) 1024 with
              | true => exact ⟨5, fun k => rfl, fun k => rfl⟩
              | false =>
                obtain ⟨r, r1, r2⟩ := hdr_loop2 a b c d tw th hl (by omega) l.length 0 5000 5000 (by omega) (by omega) (by omega) (by omega)
                have r1' : ∀ k0 k1, L49_12_0 re rk 5000 5000 k0 k1 a b c d tw th l 0 = _ := r1
                have r2' : ∀ k0 k1, L45_14_0 re rk 5000 5000 k0 k1 a b c d tw th l l (re.on (re.len l)) 0 = _ := r2
                simp only [r1', r2']
                cases r with
                | some e => exact ⟨e, fun k => rfl, fun k => rfl⟩
                | none => exact ⟨0, fun k => rfl, fun k => rfl⟩

end Go.Proofs.Ytcapaihnachkhaa
