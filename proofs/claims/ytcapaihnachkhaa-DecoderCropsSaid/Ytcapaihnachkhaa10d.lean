/-
  DecoderCrops: valid images. The program's and the reference's answer are the same.
-/
import Derived.Test.Ytcapaihnachkhaa10c
set_option linter.unusedVariables false
set_option linter.unusedSimpArgs false
set_option maxRecDepth 100000
namespace Go.Proofs.Ytcapaihnachkhaa
open Go.Os
open Go.ChangeShapes Go.WideShapes Go.ChangeAt Go.RowKit
abbrev shP : List Sh := [.i .i64, .i .i64, .i .i64, .i .i64, .sl 1 (.i .i64)]
theorem valid_v (N : Nat) (a b c d : Int) (l : List R) : ∃ v : Bool, (v = true → v65 a b c d = true ∧ (l.length : Int) = (c - a) * (d - b)) ∧ (∀ k : Bool → Option Unit, F46_0 re rk N a b c d l k = k v) ∧ (∀ k : Bool → Option Unit, F50_0 re rk N a b c d l k = k v) := by
  unfold F46_0 G46_0 F50_0 G50_0
  simp only [F61_eq, F75_eq, F65_v, F79_v]
  cases hv : v65 a b c d with
  | false => exact ⟨false, (fun h => by cases h), fun k => rfl, fun k => rfl⟩
  | true => cases re.cm .leq (v79 a b c d) 1048576 with
    | false => exact ⟨false, (fun h => by cases h), fun k => rfl, fun k => rfl⟩
    | true => exact ⟨_, (fun h => ⟨rfl, by
        have := of_decide_eq_true h
        rw [v79_v hv] at this
        exact this⟩), fun k => rfl, fun k => rfl⟩
theorem range_v (d : Int) (s : Bool) (x y : Int) : ∃ lo hi : Int, (∀ k : Int → Int → Option Unit, F48_0 re rk 5000 d s x y k = k lo hi) ∧ (∀ k : Int → Int → Option Unit, F52_0 re rk 5000 d s x y k = k lo hi) := by
  by_cases h1 : d < 1
  · refine ⟨0, 0, fun k => ?_, fun k => ?_⟩
    · unfold F48_0 G48_0 F76_0 G76_0
      rw [show re.cm .geq d 1 = false from decide_eq_false (by omega)]; rfl
    · unfold F52_0 G52_0
      rw [show re.cm .lss d 1 = true from decide_eq_true h1]
  · by_cases h2 : 16 < d
    · refine ⟨0, 0, fun k => ?_, fun k => ?_⟩
      · unfold F48_0 G48_0 F76_0 G76_0
        rw [show re.cm .geq d 1 = true from decide_eq_true (by omega), show re.cm .leq d 16 = false from decide_eq_false (by omega)]; rfl
      · unfold F52_0 G52_0
        rw [show re.cm .lss d 1 = false from decide_eq_false h1, show re.cm .gtr d 16 = true from decide_eq_true h2]
    · have : d = 1 ∨ d = 2 ∨ d = 3 ∨ d = 4 ∨ d = 5 ∨ d = 6 ∨ d = 7 ∨ d = 8 ∨ d = 9 ∨ d = 10 ∨ d = 11 ∨ d = 12 ∨ d = 13 ∨ d = 14 ∨ d = 15 ∨ d = 16 := by omega
      rcases this with rfl | rfl | rfl | rfl | rfl | rfl | rfl | rfl | rfl | rfl | rfl | rfl | rfl | rfl | rfl | rfl <;> cases s
      · exact ⟨0, 1, fun k => by kernel_rfl, fun k => by kernel_rfl⟩
      · exact ⟨-1, 0, fun k => by kernel_rfl, fun k => by kernel_rfl⟩
      · exact ⟨0, 3, fun k => by kernel_rfl, fun k => by kernel_rfl⟩
      · exact ⟨-2, 1, fun k => by kernel_rfl, fun k => by kernel_rfl⟩
      · exact ⟨0, 7, fun k => by kernel_rfl, fun k => by kernel_rfl⟩
      · exact ⟨-4, 3, fun k => by kernel_rfl, fun k => by kernel_rfl⟩
      · exact ⟨0, 15, fun k => by kernel_rfl, fun k => by kernel_rfl⟩
      · exact ⟨-8, 7, fun k => by kernel_rfl, fun k => by kernel_rfl⟩
      · exact ⟨0, 31, fun k => by kernel_rfl, fun k => by kernel_rfl⟩
      · exact ⟨-16, 15, fun k => by kernel_rfl, fun k => by kernel_rfl⟩
      · exact ⟨0, 63, fun k => by kernel_rfl, fun k => by kernel_rfl⟩
      · exact ⟨-32, 31, fun k => by kernel_rfl, fun k => by kernel_rfl⟩
      · exact ⟨0, 127, fun k => by kernel_rfl, fun k => by kernel_rfl⟩
      · exact ⟨-64, 63, fun k => by kernel_rfl, fun k => by kernel_rfl⟩
      · exact ⟨0, 255, fun k => by kernel_rfl, fun k => by kernel_rfl⟩
      · exact ⟨-128, 127, fun k => by kernel_rfl, fun k => by kernel_rfl⟩
      · exact ⟨0, 511, fun k => by kernel_rfl, fun k => by kernel_rfl⟩
      · exact ⟨-256, 255, fun k => by kernel_rfl, fun k => by kernel_rfl⟩
      · exact ⟨0, 1023, fun k => by kernel_rfl, fun k => by kernel_rfl⟩
      · exact ⟨-512, 511, fun k => by kernel_rfl, fun k => by kernel_rfl⟩
      · exact ⟨0, 2047, fun k => by kernel_rfl, fun k => by kernel_rfl⟩
      · exact ⟨-1024, 1023, fun k => by kernel_rfl, fun k => by kernel_rfl⟩
      · exact ⟨0, 4095, fun k => by kernel_rfl, fun k => by kernel_rfl⟩
      · exact ⟨-2048, 2047, fun k => by kernel_rfl, fun k => by kernel_rfl⟩
      · exact ⟨0, 8191, fun k => by kernel_rfl, fun k => by kernel_rfl⟩
      · exact ⟨-4096, 4095, fun k => by kernel_rfl, fun k => by kernel_rfl⟩
      · exact ⟨0, 16383, fun k => by kernel_rfl, fun k => by kernel_rfl⟩
      · exact ⟨-8192, 8191, fun k => by kernel_rfl, fun k => by kernel_rfl⟩
      · exact ⟨0, 32767, fun k => by kernel_rfl, fun k => by kernel_rfl⟩
      · exact ⟨-16384, 16383, fun k => by kernel_rfl, fun k => by kernel_rfl⟩
      · exact ⟨0, 65535, fun k => by kernel_rfl, fun k => by kernel_rfl⟩
      · exact ⟨-32768, 32767, fun k => by kernel_rfl, fun k => by kernel_rfl⟩
theorem data_loop (a b c d tw th : Int) (cs ps : List R) (lo hi lp ix : Int) {l : List R} (hl : ∀ x ∈ l, shOK (.i .i64) x) (hlen : l.length < 5000) : ∀ (cnt j n m : Nat), l.length - j = cnt → j ≤ l.length → cnt < n → cnt < m →
    ∃ v : Bool, (∀ (k0 : Int → Int → Int → Int → Int → Int → Int → List R → List R → Int → Int → Option Unit) (k1 : Int → Int → Int → Int → Int → Int → List R → List R → Int → Int → Option Unit),
        L24_15_0 re rk 5000 n k0 k1 a b c d tw th cs lo hi ps lp ix l (re.on (re.len l)) (j : Int) = (match v with | true => k0 2 a b c d tw th cs ps lp ix | false => k1 a b c d tw th cs ps lp ix)) ∧
      (∀ (k0 : Int → Int → Int → Int → Int → Int → List R → List R → Int → List R → Int → Int → Option Unit) (k1 : Int → Int → Int → Int → Int → Int → List R → List R → List R → Int → Int → Option Unit),
        L25_14_0 re rk 5000 m k0 k1 a b c d tw th cs ps lo hi ps lp ix l (re.on (re.len l)) (j : Int) = (match v with | true => k0 a b c d tw th cs ps 2 ps lp ix | false => k1 a b c d tw th cs ps ps lp ix)) := by
  intro cnt
  induction cnt with
  | zero =>
    intro j n m h1 h2 hn hm
    obtain ⟨n, rfl⟩ : ∃ n', n = n' + 1 := ⟨n - 1, by omega⟩
    obtain ⟨m, rfl⟩ : ∃ n', m = n' + 1 := ⟨m - 1, by omega⟩
    have hlt : re.cm .lss (j : Int) (re.on (re.len l)) = false := decide_eq_false (by simp only [e_on, e_len]; omega)
    exact ⟨false, fun k0 k1 => by simp only [L24_15_0, GL24_15_0, hlt], fun k0 k1 => by simp only [L25_14_0, GL25_14_0, hlt]⟩
  | succ cnt ih =>
    intro j n m h1 h2 hn hm
    obtain ⟨n, rfl⟩ : ∃ n', n = n' + 1 := ⟨n - 1, by omega⟩
    obtain ⟨m, rfl⟩ : ∃ n', m = n' + 1 := ⟨m - 1, by omega⟩
    have hj : j < l.length := by omega
    have hlt : re.cm .lss (j : Int) (re.on (re.len l)) = true := decide_eq_true (by simp only [e_on, e_len]; omega)
    have hix : re.ix (j : Int) (re.len l) = some j := e_ix hj
    have hok : rk.okE [.i .i64] false l j = true := okE_1 rfl hl hj
    have hinc : re.ar .add .i64 (j : Int) 1 = ((j + 1 : Nat) : Int) := e_inc (by omega)
    obtain ⟨z, z1, z2⟩ := ih (j + 1) n m (by omega) (by omega) (by omega) (by omega)
    cases c0 : re.cm .lss (rk.ci l j 0) lo with
    | true => exact ⟨true, fun k0 k1 => by simp only [L24_15_0, GL24_15_0, hlt, hix, hok, c0], fun k0 k1 => by simp only [L25_14_0, GL25_14_0, hlt, hix, hok, c0]⟩
    | false => cases c1 : re.cm .gtr (rk.ci l j 0) hi with
      | true => exact ⟨true, fun k0 k1 => by simp only [L24_15_0, GL24_15_0, hlt, hix, hok, c0, c1], fun k0 k1 => by simp only [L25_14_0, GL25_14_0, hlt, hix, hok, c0, c1]⟩
      | false => exact ⟨z, fun k0 k1 => by simp only [L24_15_0, GL24_15_0, hlt, hix, hok, c0, c1, hinc, z1], fun k0 k1 => by simp only [L25_14_0, GL25_14_0, hlt, hix, hok, c0, c1, hinc, z2]⟩
theorem plane_loop (a b c d tw th : Int) {cs ps : List R} (hc : ∀ x ∈ cs, shOK (.ag shC4) x) (hp : ∀ x ∈ ps, shOK (.ag shP) x) (hlen : ps.length < 5000) (heq : ps.length = cs.length) (hd : ∀ i, i < ps.length → (rk.cl ps i 4).length ≤ 1700) : ∀ (cnt j n m : Nat), ps.length - j = cnt → j ≤ ps.length → cnt < n → cnt < m →
    ∃ r : Option Int, (r = none → ∀ i, j ≤ i → i < ps.length → PL (rk.ci ps i 0) (rk.ci ps i 1) (rk.ci ps i 2) (rk.ci ps i 3) (rk.cl ps i 4)) ∧ (∀ e, r = some e → e ≠ 0) ∧ (∀ (k0 : Int → Option Unit) (k1 : Option Unit), L24_8_0 re rk 5000 n k0 k1 a b c d tw th cs ps (re.on (re.len ps)) (j : Int) = (match r with | some e => k0 e | none => k1)) ∧
      (∀ (k0 : Int → Option Unit) (k1 : Option Unit), L25_7_0 re rk 5000 m k0 k1 a b c d tw th cs ps ps (re.on (re.len ps)) (j : Int) = (match r with | some e => k0 e | none => k1)) := by
  intro cnt
  induction cnt with
  | zero =>
    intro j n m h1 h2 hn hm
    obtain ⟨n, rfl⟩ : ∃ n', n = n' + 1 := ⟨n - 1, by omega⟩
    obtain ⟨m, rfl⟩ : ∃ n', m = n' + 1 := ⟨m - 1, by omega⟩
    have hlt : re.cm .lss (j : Int) (re.on (re.len ps)) = false := decide_eq_false (by simp only [e_on, e_len]; omega)
    exact ⟨none, (fun _ i h3 h4 => by omega), (fun e h => by cases h), fun k0 k1 => by simp only [L24_8_0, GL24_8_0, hlt], fun k0 k1 => by simp only [L25_7_0, GL25_7_0, hlt]⟩
  | succ cnt ih =>
    intro j n m h1 h2 hn hm
    obtain ⟨n, rfl⟩ : ∃ n', n = n' + 1 := ⟨n - 1, by omega⟩
    obtain ⟨m, rfl⟩ : ∃ n', m = n' + 1 := ⟨m - 1, by omega⟩
    have hj : j < ps.length := by omega
    have hlt : re.cm .lss (j : Int) (re.on (re.len ps)) = true := decide_eq_true (by simp only [e_on, e_len]; omega)
    have hix : re.ix (j : Int) (re.len ps) = some j := e_ix hj
    have hix2 : re.ix (j : Int) (re.len cs) = some j := e_ix (show j < cs.length by omega)
    have hok : rk.okE shP true ps j = true := okE_ag rfl hp hj
    have hok2 : rk.okE shC4 true cs j = true := okE_ag rfl hc (by omega)
    have hinc : re.ar .add .i64 (j : Int) 1 = ((j + 1 : Nat) : Int) := e_inc (by omega)
    obtain ⟨p, q, r, s, h51⟩ := F51_v 5000 a b c d (rk.ci cs j 2) (rk.ci cs j 3)
    obtain ⟨v, v0, v1, v2⟩ := valid_v 5000 (rk.ci ps j 0) (rk.ci ps j 1) (rk.ci ps j 2) (rk.ci ps j 3) (rk.cl ps j 4)
    obtain ⟨lo, hi, w1, w2⟩ := range_v (rk.ci cs j 0) (rk.cb cs j 1) (rk.ci cs j 2) (rk.ci cs j 3)
    obtain ⟨z, z0, z9, z1, z2⟩ := ih (j + 1) n m (by omega) (by omega) (by omega) (by omega)
    have hdj := hd j hj
    obtain ⟨u, u1, u2⟩ := data_loop a b c d tw th cs ps lo hi (re.on (re.len ps)) j (cl_ok hp hj) (by omega) (rk.cl ps j 4).length 0 5000 5000 (by omega) (by omega) (by omega) (by omega)
    have u1' : ∀ k0 k1, L24_15_0 re rk 5000 5000 k0 k1 a b c d tw th cs lo hi ps (re.on (re.len ps)) j (rk.cl ps j 4) (re.on (re.len (rk.cl ps j 4))) 0 = _ := u1
    have u2' : ∀ k0 k1, L25_14_0 re rk 5000 5000 k0 k1 a b c d tw th cs ps lo hi ps (re.on (re.len ps)) j (rk.cl ps j 4) (re.on (re.len (rk.cl ps j 4))) 0 = _ := u2
    cases v with
    | false => exact ⟨some 1, (fun h => by cases h), (fun e h => by cases h; decide), fun k0 k1 => by simp only [L24_8_0, GL24_8_0, hlt, hix, hix2, hok, hok2, v1, e_bn, Bool.not_false], fun k0 k1 => by simp only [L25_7_0, GL25_7_0, hlt, hix, hix2, hok, hok2, v2, e_bn, Bool.not_false]⟩
    | true =>
      cases c1 : re.ba (re.cm .eql (rk.ci ps j 0) p) (re.ba (re.cm .eql (rk.ci ps j 1) q) (re.ba (re.cm .eql (rk.ci ps j 2) r) (re.ba (re.cm .eql (rk.ci ps j 3) s) true))) with
      | false => exact ⟨some 1, (fun h => by cases h), (fun e h => by cases h; decide), fun k0 k1 => by simp only [L24_8_0, GL24_8_0, hlt, hix, hix2, hok, hok2, v1, F47_eq, h51, c1, e_bn, Bool.not_false, Bool.not_true], fun k0 k1 => by simp only [L25_7_0, GL25_7_0, hlt, hix, hix2, hok, hok2, v2, h51, c1, e_bn, Bool.not_false, Bool.not_true]⟩
      | true =>
        cases u with
        | true => exact ⟨some 2, (fun h => by cases h), (fun e h => by cases h; decide), fun k0 k1 => by simp only [L24_8_0, GL24_8_0, hlt, hix, hix2, hok, hok2, v1, F47_eq, h51, c1, w1, u1', e_bn, Bool.not_false, Bool.not_true], fun k0 k1 => by simp only [L25_7_0, GL25_7_0, hlt, hix, hix2, hok, hok2, v2, h51, c1, w2, u2', e_bn, Bool.not_false, Bool.not_true]⟩
        | false => exact ⟨z, (fun hz i h3 h4 => by
            rcases Nat.eq_or_lt_of_le h3 with rfl | h3
            · exact ⟨(v0 rfl).1, (v0 rfl).2, cl_ok hp hj⟩
            · exact z0 hz i h3 h4), z9, fun k0 k1 => by simp only [L24_8_0, GL24_8_0, hlt, hix, hix2, hok, hok2, v1, F47_eq, h51, c1, w1, u1', e_bn, Bool.not_false, Bool.not_true, hinc, z1], fun k0 k1 => by simp only [L25_7_0, GL25_7_0, hlt, hix, hix2, hok, hok2, v2, h51, c1, w2, u2', e_bn, Bool.not_false, Bool.not_true, hinc, z2]⟩
theorem image (a b c d tw th : Int) {cs ps : List R} (hc : ∀ x ∈ cs, shOK (.ag shC4) x) (hp : ∀ x ∈ ps, shOK (.ag shP) x) (hlen : ps.length < 5000) (hd : ∀ i, i < ps.length → (rk.cl ps i 4).length ≤ 1700) :
    ∃ e : Int, (e = 0 → HF a b c d tw th cs ∧ ps.length = cs.length ∧ ∀ i, i < ps.length → PL (rk.ci ps i 0) (rk.ci ps i 1) (rk.ci ps i 2) (rk.ci ps i 3) (rk.cl ps i 4)) ∧ (∀ k : Int → Option Unit, F24_0 re rk 5000 a b c d tw th cs ps k = k e) ∧ (∀ k : Int → Option Unit, F25_0 re rk 5000 a b c d tw th cs ps k = k e) := by
  obtain ⟨e, h0, h1, h2⟩ := hdr a b c d tw th hc
  unfold F24_0 G24_0 F25_0 G25_0
  simp only [h1, h2]
  cases he : re.cm .neq e 0 with
  | true => exact ⟨e, (fun h => absurd h (of_decide_eq_true he)), fun k => rfl, fun k => rfl⟩
  | false => cases hq : re.cm .neq (re.on (re.len ps)) (re.on (re.len cs)) with
    | true => exact ⟨4, (fun h => by cases h), fun k => rfl, fun k => rfl⟩
    | false =>
      have heq : ps.length = cs.length := by
        have := of_decide_eq_false hq
        simp only [e_on, e_len, ne_eq, Classical.not_not] at this
        omega
      obtain ⟨r, r0, r9, r1, r2⟩ := plane_loop a b c d tw th hc hp hlen heq hd ps.length 0 5000 5000 (by omega) (by omega) (by omega) (by omega)
      have r1' : ∀ k0 k1, L24_8_0 re rk 5000 5000 k0 k1 a b c d tw th cs ps (re.on (re.len ps)) 0 = _ := r1
      have r2' : ∀ k0 k1, L25_7_0 re rk 5000 5000 k0 k1 a b c d tw th cs ps ps (re.on (re.len ps)) 0 = _ := r2
      simp only [r1', r2']
      cases r with
      | some e => exact ⟨e, (fun h => absurd h (r9 e rfl)), fun k => rfl, fun k => rfl⟩
      | none =>
        have he0 : e = 0 := by
          have := of_decide_eq_false he
          simp only [ne_eq, Classical.not_not] at this
          exact this
        exact ⟨0, (fun _ => ⟨h0 he0, heq, fun i hi => r0 rfl i (by omega) hi⟩), fun k => rfl, fun k => rfl⟩
end Go.Proofs.Ytcapaihnachkhaa
