/-
  DecoderCrops: few images; the law's tree.
-/
import Derived.Test.Ytcapaihnachkhaa10f
set_option linter.unusedVariables false
set_option linter.unusedSimpArgs false
set_option maxRecDepth 100000
namespace Go.Proofs.Ytcapaihnachkhaa
open Go.Os
open Go.ChangeShapes Go.WideShapes Go.ChangeAt Go.RowKit
theorem isP_ok {l : List R} (hl : ∀ x ∈ l, isP x) {i : Nat} (hi : i < l.length) : rk.okE shP true l i = true ∧ (rk.cl l i 4).length ≤ 1700 ∧ ∀ y ∈ rk.cl l i 4, shOK (.i .i64) y := by
  obtain ⟨p, q, r, s, D, hx, h1, h2⟩ := hl l[i] (List.getElem_mem hi)
  have e : rk.cl l i 4 = D := by
    show rcl (cellOf l i 4) = D
    unfold cellOf
    rw [List.getElem?_eq_getElem hi, hx]
    rfl
  refine ⟨?_, by rw [e]; exact h1, by rw [e]; exact h2⟩
  show (match l[i]? with | some x => _ | none => false) = true
  rw [List.getElem?_eq_getElem hi, hx]
  rfl
theorem plane_same (p q r s : Int) {D : List R} (h1 : D.length ≤ 1700) (h2 : ∀ y ∈ D, shOK (.i .i64) y) (k : Bool → Option Unit) : F104_0 re rk 5000 p q r s D p q r s D k = k true := by
  have hL : ∀ (k0 : List R → List R → Bool → Option Unit) (k1 : List R → List R → Option Unit), L122_4_0 re rk 5000 5000 k0 k1 D D 0 = k1 D D := ints_loop h2 h1 D.length 0 5000 (by omega) (by omega) (by omega)
  have hb : re.ba true (re.ba true (re.ba true (re.ba true true))) = true := rfl
  unfold F104_0 G104_0 F122_0 G122_0
  simp only [eql_r, neq_r, hb, hL]
theorem planes_same (p q r s t u : Int) (cs : List R) {l : List R} (hl : ∀ x ∈ l, isP x) (hlen : l.length ≤ 4) : ∀ (cnt j n : Nat), l.length - j = cnt → j ≤ l.length → cnt < n →
    ∀ (k0 : Bool → Option Unit) (k1 : Option Unit), L71_5t8_0 re rk 5000 n k0 k1 p q r s t u cs l p q r s t u cs l (re.on (re.len l)) (j : Int) = k1 := by
  intro cnt
  induction cnt with
  | zero =>
    intro j n h1 h2 hn k0 k1
    obtain ⟨n, rfl⟩ : ∃ n', n = n' + 1 := ⟨n - 1, by omega⟩
    have hlt : re.cm .lss (j : Int) (re.on (re.len l)) = false := decide_eq_false (by simp only [e_on, e_len]; omega)
    simp only [L71_5t8_0, GL71_5t8_0, hlt]
  | succ cnt ih =>
    intro j n h1 h2 hn k0 k1
    obtain ⟨n, rfl⟩ : ∃ n', n = n' + 1 := ⟨n - 1, by omega⟩
    have hj : j < l.length := by omega
    have hlt : re.cm .lss (j : Int) (re.on (re.len l)) = true := decide_eq_true (by simp only [e_on, e_len]; omega)
    have hix : re.ix (j : Int) (re.len l) = some j := e_ix hj
    obtain ⟨hok, d1, d2⟩ := isP_ok hl hj
    have hinc : re.ar .add .i64 (j : Int) 1 = ((j + 1 : Nat) : Int) := e_inc (by omega)
    simp only [L71_5t8_0, GL71_5t8_0, hlt, hix, hok, plane_same _ _ _ _ d1 d2, e_bn, Bool.not_true, hinc, ih (j + 1) n (by omega) (by omega) (by omega)]
theorem F38_s (p q r s t u : Int) {cs pl : List R} (hc : ∀ x ∈ cs, shOK (.ag shC4) x) (h4 : cs.length ≤ 4) (hl : ∀ x ∈ pl, isP x) (hlen : pl.length ≤ 4) (k : Bool → Option Unit) : F38_8 re rk 5000 p q r s t u cs pl 0 p q r s t u cs pl 0 k = k true := by
  have hL : ∀ (k0 : Bool → Option Unit) (k1 : Option Unit), L71_5t8_0 re rk 5000 5000 k0 k1 p q r s t u cs pl p q r s t u cs pl (re.on (re.len pl)) 0 = k1 := planes_same p q r s t u cs hl hlen pl.length 0 5000 (by omega) (by omega) (by omega)
  unfold F38_8 G38_8 F71_8 G71_8 F35_3 G35_3
  simp only [eql_r, neq_r, same_v p q r s t u hc (by omega), F68_z, e_bn, Bool.not_true, hL]
theorem few31 (a b c d w h : Int) {cs : List R} (hc : ∀ x ∈ cs, shOK (.ag shC4) x) : ∃ v : Bool, ∀ k : Bool → Option Unit, F31_0 re rk 5000 a b c d w h cs 0 0 0 0 0 0 0 false false false false false false false false 0 0 k = k v := by
  obtain ⟨e, _, h1, _⟩ := hdr a b c d w h hc
  obtain ⟨l, _, h2, _⟩ := cells a b c d w h
  have h89 : ∀ k : Bool → Option Unit, F89_0 re rk 5000 0 0 0 0 0 0 0 false false false false false false false false 0 0 k = k false := fun k => by kernel_rfl
  unfold F31_0 G31_0
  cases t1 : re.cm .gtr (re.on (re.len cs)) 10 with
  | true => exact ⟨false, fun k => by simp only [t1]⟩
  | false => cases t2 : re.cm .gtr (re.on 0) 10 with
    | true => exact ⟨false, fun k => by simp only [t1, t2]⟩
    | false => cases t3 : re.cm .gtr (re.on 0) 40 with
      | true => exact ⟨false, fun k => by simp only [t1, t2, t3]⟩
      | false => cases he : re.cm .neq e 0 with
        | true => exact ⟨true, fun k => by simp only [t1, t2, t3, h1, he]⟩
        | false =>
          obtain rfl : e = 0 := by
            have := of_decide_eq_false he
            simp only [ne_eq, Classical.not_not] at this
            exact this
          have h56 := tiles a b c d w h h1 h2
          have h57 : ∀ k : Int → Option Unit, F57_0 re rk 5000 a b c d w h cs 0 0 0 0 0 0 0 false false false false false false false false 0 0 k = k 3 := fun k => by
            unfold F57_0 G57_0
            simp only [h1, h89, he, e_bn, Bool.not_false]
          have h3 : re.cm .neq 3 0 = true := rfl
          cases t4 : re.cm .gtr (re.ar .sub .i64 c a) 40 with
          | true => exact ⟨false, fun k => by simp only [t1, t2, t3, h1, he, t4]⟩
          | false => cases t5 : re.cm .gtr (re.ar .sub .i64 d b) 40 with
            | true => exact ⟨false, fun k => by simp only [t1, t2, t3, h1, he, t4, t5]⟩
            | false => cases t6 : re.cm .gtr (re.on (re.len l)) 16 with
              | true => exact ⟨false, fun k => by simp only [t1, t2, t3, h1, he, t4, t5, h56, t6]⟩
              | false => exact ⟨true, fun k => by simp only [t1, t2, t3, h1, he, t4, t5, h56, t6, h57, h3]⟩
theorem plane_sizes {ps : List R} (hp : ∀ x ∈ ps, shOK (.ag shP) x) (hlen : ps.length < 5000) : ∀ (cnt j n : Nat), ps.length - j = cnt → j ≤ ps.length → cnt < n →
    ∃ v : Bool, (v = true → ∀ i, j ≤ i → i < ps.length → (rk.cl ps i 4).length ≤ 1700) ∧ ∀ (k0 : Bool → Option Unit) (k1 : Option Unit), L22_4_0 re rk 5000 n k0 k1 ps (re.on (re.len ps)) (j : Int) = (match v with | true => k1 | false => k0 false) := by
  intro cnt
  induction cnt with
  | zero =>
    intro j n h1 h2 hn
    obtain ⟨n, rfl⟩ : ∃ n', n = n' + 1 := ⟨n - 1, by omega⟩
    have hlt : re.cm .lss (j : Int) (re.on (re.len ps)) = false := decide_eq_false (by simp only [e_on, e_len]; omega)
    exact ⟨true, fun _ i h3 h4 => by omega, fun k0 k1 => by simp only [L22_4_0, GL22_4_0, hlt]⟩
  | succ cnt ih =>
    intro j n h1 h2 hn
    obtain ⟨n, rfl⟩ : ∃ n', n = n' + 1 := ⟨n - 1, by omega⟩
    have hj : j < ps.length := by omega
    have hlt : re.cm .lss (j : Int) (re.on (re.len ps)) = true := decide_eq_true (by simp only [e_on, e_len]; omega)
    have hix : re.ix (j : Int) (re.len ps) = some j := e_ix hj
    have hok : rk.okE shP true ps j = true := okE_ag rfl hp hj
    have hinc : re.ar .add .i64 (j : Int) 1 = ((j + 1 : Nat) : Int) := e_inc (by omega)
    obtain ⟨z, z1, z2⟩ := ih (j + 1) n (by omega) (by omega) (by omega)
    cases c0 : re.cm .gtr (re.on (re.len (rk.cl ps j 4))) 1700 with
    | true => exact ⟨false, (fun h => by cases h), fun k0 k1 => by simp only [L22_4_0, GL22_4_0, hlt, hix, hok, c0]⟩
    | false =>
      refine ⟨z, fun hz i h3 h4 => ?_, fun k0 k1 => by simp only [L22_4_0, GL22_4_0, hlt, hix, hok, c0, hinc, z2]⟩
      rcases Nat.eq_or_lt_of_le h3 with rfl | h3
      · have := of_decide_eq_false c0
        simp only [e_on, e_len] at this
        omega
      · exact z1 hz i h3 h4
theorem few (a b c d w h : Int) {cs ps : List R} (hc : ∀ x ∈ cs, shOK (.ag shC4) x) (hp : ∀ x ∈ ps, shOK (.ag shP) x) :
    ∃ v : Bool, (v = true → ps.length < 5000 ∧ ∀ i, i < ps.length → (rk.cl ps i 4).length ≤ 1700) ∧ ∀ k : Bool → Option Unit, F22_0 re rk 5000 a b c d w h cs ps 0 0 0 0 0 0 0 false false false false false false false false 0 0 k = k v := by
  obtain ⟨v, h1⟩ := few31 a b c d w h hc
  unfold F22_0 G22_0
  simp only [h1]
  cases v with
  | false => exact ⟨false, (fun h => by cases h), fun k => rfl⟩
  | true => cases hl : re.cm .gtr (re.on (re.len ps)) 10 with
    | true => exact ⟨false, (fun h => by cases h), fun k => rfl⟩
    | false =>
      have hlen : ps.length ≤ 10 := by
        have := of_decide_eq_false hl
        simp only [e_on, e_len] at this
        omega
      obtain ⟨z, z1, z2⟩ := plane_sizes hp (by omega) ps.length 0 5000 (by omega) (by omega) (by omega)
      have z2' : ∀ k0 k1, L22_4_0 re rk 5000 5000 k0 k1 ps (re.on (re.len ps)) 0 = _ := z2
      refine ⟨z, fun h => ⟨by omega, fun i hi => z1 h i (by omega) hi⟩, fun k => ?_⟩
      simp only [z2']
      cases z <;> rfl
theorem F32_v (k : Bool → Option Unit) : F32_0 re rk 5000 k = k true := by kernel_rfl
theorem p12 (a b c d w h : Int) {cs ps : List R} (hc : ∀ x ∈ cs, shOK (.ag shC4) x) (hp : ∀ x ∈ ps, shOK (.ag shP) x) (w0 w1 w2 w3 : Int) : F12_0 re rk 5000 a b c d w h cs ps w0 w1 w2 w3 (fun y => yes (T.r (R.b y)) []) = some () := by
  obtain ⟨v, hv, h1⟩ := few a b c d w h hc hp
  unfold F12_0 G12_0
  simp only [h1, F32_v]
  cases v with
  | false => rfl
  | true =>
    obtain ⟨o, f, o0, g1, g2⟩ := crops a b c d w h hc hp (hv rfl).1 (hv rfl).2 w0 w1 w2 w3
    simp only [g1, g2, e_bn, Bool.not_true]
    cases o with
    | none =>
      simp only [F38_z]
      rfl
    | some x =>
      obtain ⟨p, q, r, s, pl⟩ := x
      obtain ⟨d1, d2, d3⟩ := o0 p q r s pl rfl
      simp only [F38_s p q r s w h hc d1 d3 d2]
      rfl
end Go.Proofs.Ytcapaihnachkhaa
