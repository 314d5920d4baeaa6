/-
  EncoderValidates: the bounds are decided for every input.
-/
import Derived.Test.Ytcapaihnachkhaa8b
set_option linter.unusedVariables false
set_option linter.unusedSimpArgs false
set_option maxRecDepth 100000
namespace Go.Proofs.Ytcapaihnachkhaa
open Go.Os
open Go.ChangeShapes Go.WideShapes Go.ChangeAt Go.RowKit

theorem F64_v (N : Nat) (a b c d e f g h : Int) : ∃ p q r s : Int, ∀ k : Int → Int → Int → Int → Option Unit, F64_14 re rk N a b c d e f g h k = k p q r s := by
  unfold F64_14 G64_14
  simp only [F66_v]
  cases v66 (re.mx a e) (re.mx b f) (re.mn c g) (re.mn d h) with
  | true => exact ⟨_, _, _, _, fun k => rfl⟩
  | false => exact ⟨_, _, _, _, fun k => rfl⟩

theorem e_inc' {x : Int} (h : 0 ≤ x) (h' : x ≤ 4097) : re.ar .add .i64 x 1 = x + 1 := by
  show IntKind.wrap .i64 (x + 1) = x + 1
  rw [wrap64 (by omega) (by omega)]

theorem small_ok {n : Nat} (h : n ≤ 1000000000) : re.small n 32 = true := by
  show decide (n ≤ 70368744177664 ∧ n * 32 ≤ 70368744177664) = true
  exact decide_eq_true ⟨by omega, by omega⟩

theorem row_loop (w h a b c d left right bottom jj : Int) (hr : right ≤ 4097) : ∀ (cnt n : Nat) (l : List R) (i : Int), 0 ≤ i → (right - i).toNat = cnt → cnt < n → l.length + cnt ≤ 1000000000 →
    ∃ (l' : List R) (i' : Int), l'.length ≤ l.length + cnt ∧ ∀ (k0 : Int → Int → Int → Int → Int → Int → Int → Int → Int → List R → Int → Option Unit), L88_14_0 re rk 5000 n k0 w h a b c d left right bottom l jj i = k0 w h a b c d left right bottom l' jj := by
  intro cnt
  induction cnt with
  | zero =>
    intro n l i hi hc hn hl
    obtain ⟨n, rfl⟩ : ∃ n', n = n' + 1 := ⟨n - 1, by omega⟩
    have hlt : re.cm .lss i right = false := decide_eq_false (by omega)
    exact ⟨l, i, by omega, fun k0 => by simp only [L88_14_0, GL88_14_0, hlt]⟩
  | succ cnt ih =>
    intro n l i hi hc hn hl
    obtain ⟨n, rfl⟩ : ∃ n', n = n' + 1 := ⟨n - 1, by omega⟩
    have hlt : re.cm .lss i right = true := decide_eq_true (by omega)
    obtain ⟨p, q, r, s, h64⟩ := F64_v 5000 a b c d (re.ar .mul .i64 i w) (re.ar .mul .i64 jj h) (re.ar .add .i64 (re.ar .mul .i64 i w) w) (re.ar .add .i64 (re.ar .mul .i64 jj h) h)
    have hlen : (re.app l [R.a [R.i .i64 p, R.i .i64 q, R.i .i64 r, R.i .i64 s]]).length = l.length + 1 := by simp [re]
    have hs : re.small (re.len (re.app l [R.a [R.i .i64 p, R.i .i64 q, R.i .i64 r, R.i .i64 s]])) 32 = true := small_ok (by rw [e_len, hlen]; omega)
    obtain ⟨l', i', h1, h2⟩ := ih n (re.app l [R.a [R.i .i64 p, R.i .i64 q, R.i .i64 r, R.i .i64 s]]) (i + 1) (by omega) (by omega) (by omega) (by rw [hlen]; omega)
    exact ⟨l', i', by rw [hlen] at h1; omega, fun k0 => by simp only [L88_14_0, GL88_14_0, hlt, h64, hs, e_inc' hi (show i ≤ 4097 by omega), h2]⟩

theorem col_loop (w h a b c d left right bottom : Int) (hl0 : 0 ≤ left) (hr : right ≤ 4097) (hb : bottom ≤ 4097) : ∀ (cnt n : Nat) (l : List R) (j : Int), 0 ≤ j → (bottom - j).toNat = cnt → cnt < n → l.length + cnt * 4097 ≤ 1000000000 →
    ∃ l' : List R, ∀ (k0 : Int → Int → List R → Option Unit), L88_11_0 re rk 5000 n k0 w h a b c d left right bottom l j = k0 w h l' := by
  intro cnt
  induction cnt with
  | zero =>
    intro n l j hj hc hn hl
    obtain ⟨n, rfl⟩ : ∃ n', n = n' + 1 := ⟨n - 1, by omega⟩
    have hlt : re.cm .lss j bottom = false := decide_eq_false (by omega)
    exact ⟨l, fun k0 => by simp only [L88_11_0, GL88_11_0, hlt]⟩
  | succ cnt ih =>
    intro n l j hj hc hn hl
    obtain ⟨n, rfl⟩ : ∃ n', n = n' + 1 := ⟨n - 1, by omega⟩
    have hlt : re.cm .lss j bottom = true := decide_eq_true (by omega)
    obtain ⟨l1, _, h1, h2⟩ := row_loop w h a b c d left right bottom j hr (right - left).toNat 5000 l left hl0 rfl (by omega) (by omega)
    obtain ⟨l', h3⟩ := ih n l1 (j + 1) (by omega) (by omega) (by omega) (by omega)
    exact ⟨l', fun k0 => by simp only [L88_11_0, GL88_11_0, hlt, h2, e_inc' hj (show j ≤ 4097 by omega), h3]⟩

theorem v65_in {a b c d : Int} (h : v65 a b c d = true) : 0 ≤ a ∧ a ≤ 4096 ∧ 0 ≤ b ∧ b ≤ 4096 ∧ c ≤ 4096 ∧ d ≤ 4096 ∧ 0 ≤ c ∧ 0 ≤ d := by
  unfold v65 at h
  simp only [e_leq, Bool.and_eq_true, decide_eq_true_eq] at h
  omega

theorem cells (a b c d w h : Int) : ∃ l : List R, ∀ k : List R → Option Unit, F88_13 re rk 5000 a b c d w h k = k l := by
  unfold F88_13 G88_13
  simp only [F65_v, F66_v, F80_v, F105_v, e_bn]
  cases hv : v65 a b c d with
  | false => exact ⟨[], fun k => rfl⟩
  | true => cases v66 a b c d with
    | true => exact ⟨[], fun k => rfl⟩
    | false => cases hw : re.cm .lss w 1 with
      | true => exact ⟨[], fun k => rfl⟩
      | false => cases hh : re.cm .lss h 1 with
        | true => exact ⟨[], fun k => rfl⟩
        | false => cases re.cm .gtr (re.ar .mul .i64 (re.ar .sub .i64 (v80 c w) (v105 a w)) (re.ar .sub .i64 (v80 d h) (v105 b h))) 65536 with
          | true => exact ⟨[], fun k => rfl⟩
          | false =>
            obtain ⟨h1, h2, h3, h4, h5, h6, h7, h8⟩ := v65_in hv
            have a1 := v80_le h7 h5 hw
            have a2 := v80_le h8 h6 hh
            have a3 := v105_ge h1 h2 hw
            have a4 := v105_ge h3 h4 hh
            obtain ⟨l, hl⟩ := col_loop w h a b c d (v105 a w) (v80 c w) (v80 d h) a3 a1 a2 (v80 d h - v105 b h).toNat 5000 [] (v105 b h) a4 rfl (by omega) (by simp only [List.length_nil]; omega)
            exact ⟨l, fun k => by simp only [Bool.not_true, hl]⟩

theorem tiles (a b c d w h : Int) {cs : List R} (hc : ∀ x ∈ cs, shOK (.ag shC4) x) : ∃ l : List R, ∀ k : List R → Option Unit, F56_12 re rk 5000 a b c d w h cs k = k l := by
  obtain ⟨e, h1, _⟩ := hdr a b c d w h hc
  obtain ⟨l, h2⟩ := cells a b c d w h
  unfold F56_12 G56_12
  simp only [h1, h2]
  cases re.cm .neq e 0 with
  | true => exact ⟨_, fun k => rfl⟩
  | false => exact ⟨_, fun k => rfl⟩

theorem few31 (a b c d w h : Int) {cs : List R} (hc : ∀ x ∈ cs, shOK (.ag shC4) x) : ∃ v : Bool, ∀ k : Bool → Option Unit, F31_2 re rk 5000 a b c d w h cs 0 0 0 0 0 0 0 false false false false false false false false 0 0 k = k v := by
  obtain ⟨e, h1, _⟩ := hdr a b c d w h hc
  obtain ⟨l, h2⟩ := tiles a b c d w h hc
  have h89 : ∀ k : Bool → Option Unit, F89_16 re rk 5000 0 0 0 0 0 0 0 false false false false false false false false 0 0 k = k false := fun k => by kernel_rfl
  have h57 : re.cm .neq e 0 = false → ∀ k : Int → Option Unit, F57_15 re rk 5000 a b c d w h cs 0 0 0 0 0 0 0 false false false false false false false false 0 0 k = k 3 := fun he k => by
    unfold F57_15 G57_15
    simp only [h1, h89, he, e_bn, Bool.not_false]
  unfold F31_2 G31_2
  simp only [h1, h2]
  cases re.cm .gtr (re.on (re.len cs)) 10 with
  | true => exact ⟨false, fun k => rfl⟩
  | false => cases re.cm .gtr (re.on 0) 10 with
    | true => exact ⟨false, fun k => rfl⟩
    | false => cases re.cm .gtr (re.on 0) 40 with
      | true => exact ⟨false, fun k => rfl⟩
      | false => cases he : re.cm .neq e 0 with
        | true => exact ⟨true, fun k => rfl⟩
        | false => cases re.cm .gtr (re.ar .sub .i64 c a) 40 with
          | true => exact ⟨false, fun k => rfl⟩
          | false => cases re.cm .gtr (re.ar .sub .i64 d b) 40 with
            | true => exact ⟨false, fun k => rfl⟩
            | false => cases re.cm .gtr (re.on (re.len l)) 16 with
              | true => exact ⟨false, fun k => rfl⟩
              | false => exact ⟨true, fun k => by simp only [h57 he]; rfl⟩

theorem plane_sizes {ps : List R} (hp : ∀ x ∈ ps, shOK (.ag shP) x) (hlen : ps.length < 5000) : ∀ (cnt j n : Nat), ps.length - j = cnt → j ≤ ps.length → cnt < n →
    ∃ v : Bool, (v = true → ∀ i, j ≤ i → i < ps.length → (rk.cl ps i 4).length ≤ 1700) ∧ ∀ (k0 : Bool → Option Unit) (k1 : Option Unit), L22_4_0 re rk 5000 n k0 k1 ps (re.on (re.len ps)) (j : Int) = (match v with | true => k1 | false => k0 false) := by
  intro cnt
  induction cnt with
  | zero =>
    intro j n h1 h2 hn
    obtain ⟨n, rfl⟩ : ∃ n', n = n' + 1 := ⟨n - 1, by omega⟩
    have hlt : re.cm .lss (j : Int) (re.on (re.len ps)) = false := decide_eq_false (by simp only [e_on, e_len]; omega)
    exact ⟨true, fun _ i h3 h4 => by omega, fun k0 k1 => by simp only [L22_4_0, GL22_4_0, hlt]⟩
  | succ cnt ih =>
    intro j n h1 h2 hn
    obtain ⟨n, rfl⟩ : ∃ n', n = n' + 1 := ⟨n - 1, by omega⟩
    have hj : j < ps.length := by omega
    have hlt : re.cm .lss (j : Int) (re.on (re.len ps)) = true := decide_eq_true (by simp only [e_on, e_len]; omega)
    have hix : re.ix (j : Int) (re.len ps) = some j := e_ix hj
    have hok : rk.okE shP true ps j = true := okE_ag rfl hp hj
    have hinc : re.ar .add .i64 (j : Int) 1 = ((j + 1 : Nat) : Int) := e_inc (by omega)
    obtain ⟨z, z1, z2⟩ := ih (j + 1) n (by omega) (by omega) (by omega)
    cases c0 : re.cm .gtr (re.on (re.len (rk.cl ps j 4))) 1700 with
    | true => exact ⟨false, (fun h => by cases h), fun k0 k1 => by simp only [L22_4_0, GL22_4_0, hlt, hix, hok, c0]⟩
    | false =>
      refine ⟨z, fun hz i h3 h4 => ?_, fun k0 k1 => by simp only [L22_4_0, GL22_4_0, hlt, hix, hok, c0, hinc, z2]⟩
      rcases Nat.eq_or_lt_of_le h3 with rfl | h3
      · have := of_decide_eq_false c0
        simp only [e_on, e_len] at this
        omega
      · exact z1 hz i h3 h4

theorem few (a b c d w h : Int) {cs ps : List R} (hc : ∀ x ∈ cs, shOK (.ag shC4) x) (hp : ∀ x ∈ ps, shOK (.ag shP) x) :
    ∃ v : Bool, (v = true → ps.length < 5000 ∧ ∀ i, i < ps.length → (rk.cl ps i 4).length ≤ 1700) ∧ ∀ k : Bool → Option Unit, F22_1 re rk 5000 a b c d w h cs ps 0 0 0 0 0 0 0 false false false false false false false false 0 0 k = k v := by
  obtain ⟨v, h1⟩ := few31 a b c d w h hc
  unfold F22_1 G22_1
  simp only [h1]
  cases v with
  | false => exact ⟨false, (fun h => by cases h), fun k => rfl⟩
  | true => cases hl : re.cm .gtr (re.on (re.len ps)) 10 with
    | true => exact ⟨false, (fun h => by cases h), fun k => rfl⟩
    | false =>
      have hlen : ps.length ≤ 10 := by
        have := of_decide_eq_false hl
        simp only [e_on, e_len] at this
        omega
      obtain ⟨z, z1, z2⟩ := plane_sizes hp (by omega) ps.length 0 5000 (by omega) (by omega) (by omega)
      have z2' : ∀ k0 k1, L22_4_0 re rk 5000 5000 k0 k1 ps (re.on (re.len ps)) 0 = _ := z2
      refine ⟨z, fun h => ⟨by omega, fun i hi => z1 h i (by omega) hi⟩, fun k => ?_⟩
      simp only [z2']
      cases z <;> rfl

end Go.Proofs.Ytcapaihnachkhaa
