/-
  Streams compared; few.
-/
import Derived.Test.YthlnfebecphcmaaGreat26b
set_option linter.unusedVariables false
set_option linter.unusedSimpArgs false
set_option maxRecDepth 100000
namespace Go.Proofs.YthlnfebecphcmaaGreat
open Go.Os
open Go.ChangeShapes Go.WideShapes Go.ChangeAt Go.RowKit
def cT (xs ys : List R) (i : Nat) : Bool := eqL (cK (rk.cl xs i 0) (rk.cl ys i 0)) (rk.cl xs i 0) (rk.cl ys i 0)
theorem cT_refl (xs : List R) (i : Nat) : cT xs xs i = true := eqL_refl (cK_refl _) _
theorem F29_v {xs ys : List R} (hx : ∀ x ∈ xs, shOK (.ag hK) x) (hy : ∀ x ∈ ys, shOK (.ag hK) x) (hn : xs.length < 5000) (k : Bool → Option Unit) : F29_0 re rk 5000 xs ys k = k (eqL (cK xs ys) xs ys) := by
  unfold F29_0 G29_0
  exact F52_v hx hy hn (fun x => k x)
theorem L12_v (a : Int) (b : Int) (c : Int) (d : Int) (tw : Int) (th : Int) (cs : List R) (kn : Int) (lv : Int) (co : Int) (bx : Int) (xy : Int) (pc : List R) (od : Int) (ly : Int) (b1 : Bool) (b2 : Bool) (b3 : Bool) (b4 : Bool) (b5 : Bool) (b6 : Bool) (b7 : Bool) (b8 : Bool) (st : List R) (dd : Int) (sf : Int) (cm : List R) (tl : List R) (a' : Int) (b' : Int) (c' : Int) (d' : Int) (tw' : Int) (th' : Int) (cs' : List R) (kn' : Int) (lv' : Int) (co' : Int) (bx' : Int) (xy' : Int) (pc' : List R) (od' : Int) (ly' : Int) (b1' : Bool) (b2' : Bool) (b3' : Bool) (b4' : Bool) (b5' : Bool) (b6' : Bool) (b7' : Bool) (b8' : Bool) (st' : List R) (dd' : Int) (sf' : Int) (cm' : List R) (tl' : List R) (ht : ∀ x ∈ tl, shOK (.sl 6 (.ag hK)) x) (ht' : ∀ x ∈ tl', shOK (.sl 6 (.ag hK)) x) (lt : ∀ i, i < tl.length → (rk.cl tl i 0).length < 5000) (hl : tl'.length = tl.length) (hn : tl.length < 100000) (k0 : Bool → Option Unit) (k1 : Option Unit) : ∀ (cnt j n : Nat), j + cnt = tl.length → cnt < n →
    L12_5_0 re rk 5000 n k0 k1 a b c d tw th cs kn lv co bx xy pc od ly b1 b2 b3 b4 b5 b6 b7 b8 st dd sf cm tl a' b' c' d' tw' th' cs' kn' lv' co' bx' xy' pc' od' ly' b1' b2' b3' b4' b5' b6' b7' b8' st' dd' sf' cm' tl' (re.on (re.len tl)) (j : Int) = match allB (cT tl tl') cnt j with | true => k1 | false => k0 false := by
  intro cnt
  induction cnt with
  | zero =>
    intro j n h hf
    obtain ⟨n, rfl⟩ : ∃ n', n = n' + 1 := ⟨n - 1, by omega⟩
    have hlt : re.cm .lss (j : Int) (re.on (re.len tl)) = false := decide_eq_false (by simp only [e_on, e_len]; omega)
    simp only [L12_5_0, GL12_5_0, hlt, allB]
  | succ cnt ih =>
    intro j n h hf
    obtain ⟨n, rfl⟩ : ∃ n', n = n' + 1 := ⟨n - 1, by omega⟩
    have hlt : re.cm .lss (j : Int) (re.on (re.len tl)) = true := decide_eq_true (by simp only [e_on, e_len]; omega)
    have h1 : re.ix (j : Int) (re.len tl) = some j := e_ix (by simp only [e_len]; omega)
    have h2 : re.ix (j : Int) (re.len tl') = some j := e_ix (by simp only [e_len]; omega)
    have o1 := okE_1 (h := .sl 6 (.ag hK)) rfl ht (show j < tl.length by omega)
    have o2 := okE_1 (h := .sl 6 (.ag hK)) rfl ht' (show j < tl'.length by omega)
    simp only [L12_5_0, GL12_5_0, hlt, h1, h2, o1, o2, F26_v (cl_t ht (show j < tl.length by omega)) (cl_t ht' (show j < tl'.length by omega)) (lt j (by omega)), e_inc (show j < 4611686018427387904 by omega), ih (j + 1) n (by omega) (by omega), allB, e_bn]
    have hcell : cT tl tl' j = eqL (cK (rk.cl tl j 0) (rk.cl tl' j 0)) (rk.cl tl j 0) (rk.cl tl' j 0) := rfl
    rw [← hcell]
    cases cT tl tl' j <;> rfl
theorem L13_v (a : Int) (b : Int) (c : Int) (d : Int) (tw : Int) (th : Int) (cs : List R) (kn : Int) (lv : Int) (co : Int) (bx : Int) (xy : Int) (pc : List R) (od : Int) (ly : Int) (b1 : Bool) (b2 : Bool) (b3 : Bool) (b4 : Bool) (b5 : Bool) (b6 : Bool) (b7 : Bool) (b8 : Bool) (st : List R) (dd : Int) (sf : Int) (cm : List R) (tl : List R) (a' : Int) (b' : Int) (c' : Int) (d' : Int) (tw' : Int) (th' : Int) (cs' : List R) (kn' : Int) (lv' : Int) (co' : Int) (bx' : Int) (xy' : Int) (pc' : List R) (od' : Int) (ly' : Int) (b1' : Bool) (b2' : Bool) (b3' : Bool) (b4' : Bool) (b5' : Bool) (b6' : Bool) (b7' : Bool) (b8' : Bool) (st' : List R) (dd' : Int) (sf' : Int) (cm' : List R) (tl' : List R) (ht : ∀ x ∈ tl, shOK (.sl 6 (.ag hK)) x) (ht' : ∀ x ∈ tl', shOK (.sl 6 (.ag hK)) x) (lt : ∀ i, i < tl.length → (rk.cl tl i 0).length < 5000) (hl : tl'.length = tl.length) (hn : tl.length < 100000) (k0 : Bool → Option Unit) (k1 : Option Unit) : ∀ (cnt j n : Nat), j + cnt = tl.length → cnt < n →
    L13_5_0 re rk 5000 n k0 k1 a b c d tw th cs kn lv co bx xy pc od ly b1 b2 b3 b4 b5 b6 b7 b8 st dd sf cm tl a' b' c' d' tw' th' cs' kn' lv' co' bx' xy' pc' od' ly' b1' b2' b3' b4' b5' b6' b7' b8' st' dd' sf' cm' tl' (re.on (re.len tl)) (j : Int) = match allB (cT tl tl') cnt j with | true => k1 | false => k0 false := by
  intro cnt
  induction cnt with
  | zero =>
    intro j n h hf
    obtain ⟨n, rfl⟩ : ∃ n', n = n' + 1 := ⟨n - 1, by omega⟩
    have hlt : re.cm .lss (j : Int) (re.on (re.len tl)) = false := decide_eq_false (by simp only [e_on, e_len]; omega)
    simp only [L13_5_0, GL13_5_0, hlt, allB]
  | succ cnt ih =>
    intro j n h hf
    obtain ⟨n, rfl⟩ : ∃ n', n = n' + 1 := ⟨n - 1, by omega⟩
    have hlt : re.cm .lss (j : Int) (re.on (re.len tl)) = true := decide_eq_true (by simp only [e_on, e_len]; omega)
    have h1 : re.ix (j : Int) (re.len tl) = some j := e_ix (by simp only [e_len]; omega)
    have h2 : re.ix (j : Int) (re.len tl') = some j := e_ix (by simp only [e_len]; omega)
    have o1 := okE_1 (h := .sl 6 (.ag hK)) rfl ht (show j < tl.length by omega)
    have o2 := okE_1 (h := .sl 6 (.ag hK)) rfl ht' (show j < tl'.length by omega)
    simp only [L13_5_0, GL13_5_0, hlt, h1, h2, o1, o2, F29_v (cl_t ht (show j < tl.length by omega)) (cl_t ht' (show j < tl'.length by omega)) (lt j (by omega)), e_inc (show j < 4611686018427387904 by omega), ih (j + 1) n (by omega) (by omega), allB, e_bn]
    have hcell : cT tl tl' j = eqL (cK (rk.cl tl j 0) (rk.cl tl' j 0)) (rk.cl tl j 0) (rk.cl tl' j 0) := rfl
    rw [← hcell]
    cases cT tl tl' j <;> rfl
def vS (a : Int) (b : Int) (c : Int) (d : Int) (tw : Int) (th : Int) (cs : List R) (kn : Int) (lv : Int) (co : Int) (bx : Int) (xy : Int) (pc : List R) (od : Int) (ly : Int) (b1 : Bool) (b2 : Bool) (b3 : Bool) (b4 : Bool) (b5 : Bool) (b6 : Bool) (b7 : Bool) (b8 : Bool) (st : List R) (dd : Int) (sf : Int) (cm : List R) (tl : List R) (a' : Int) (b' : Int) (c' : Int) (d' : Int) (tw' : Int) (th' : Int) (cs' : List R) (kn' : Int) (lv' : Int) (co' : Int) (bx' : Int) (xy' : Int) (pc' : List R) (od' : Int) (ly' : Int) (b1' : Bool) (b2' : Bool) (b3' : Bool) (b4' : Bool) (b5' : Bool) (b6' : Bool) (b7' : Bool) (b8' : Bool) (st' : List R) (dd' : Int) (sf' : Int) (cm' : List R) (tl' : List R) : Bool := vH a b c d tw th cs a' b' c' d' tw' th' cs' && (vP kn lv co bx xy pc od ly b1 b2 b3 b4 b5 b6 b7 b8 st dd sf kn' lv' co' bx' xy' pc' od' ly' b1' b2' b3' b4' b5' b6' b7' b8' st' dd' sf' && (eqL (cS cm cm') cm cm' && eqL (cT tl tl') tl tl'))
theorem F12_v (a : Int) (b : Int) (c : Int) (d : Int) (tw : Int) (th : Int) (cs : List R) (kn : Int) (lv : Int) (co : Int) (bx : Int) (xy : Int) (pc : List R) (od : Int) (ly : Int) (b1 : Bool) (b2 : Bool) (b3 : Bool) (b4 : Bool) (b5 : Bool) (b6 : Bool) (b7 : Bool) (b8 : Bool) (st : List R) (dd : Int) (sf : Int) (cm : List R) (tl : List R) (a' : Int) (b' : Int) (c' : Int) (d' : Int) (tw' : Int) (th' : Int) (cs' : List R) (kn' : Int) (lv' : Int) (co' : Int) (bx' : Int) (xy' : Int) (pc' : List R) (od' : Int) (ly' : Int) (b1' : Bool) (b2' : Bool) (b3' : Bool) (b4' : Bool) (b5' : Bool) (b6' : Bool) (b7' : Bool) (b8' : Bool) (st' : List R) (dd' : Int) (sf' : Int) (cm' : List R) (tl' : List R) (hc : ∀ x ∈ cs, shOK (.ag hC) x) (hp : ∀ x ∈ pc, shOK (.ag hP) x) (hs : ∀ x ∈ st, shOK (.i .i64) x) (hm : ∀ x ∈ cm, shOK .s x) (ht : ∀ x ∈ tl, shOK (.sl 6 (.ag hK)) x) (hc' : ∀ x ∈ cs', shOK (.ag hC) x) (hp' : ∀ x ∈ pc', shOK (.ag hP) x) (hs' : ∀ x ∈ st', shOK (.i .i64) x) (hm' : ∀ x ∈ cm', shOK .s x) (ht' : ∀ x ∈ tl', shOK (.sl 6 (.ag hK)) x) (lc : cs.length < 5000) (lp : pc.length < 5000) (ls : st.length < 5000) (lm : cm.length < 5000) (ln : tl.length < 5000) (lt : ∀ i, i < tl.length → (rk.cl tl i 0).length < 5000) (k : Bool → Option Unit) : F12_0 re rk 5000 a b c d tw th cs kn lv co bx xy pc od ly b1 b2 b3 b4 b5 b6 b7 b8 st dd sf cm tl a' b' c' d' tw' th' cs' kn' lv' co' bx' xy' pc' od' ly' b1' b2' b3' b4' b5' b6' b7' b8' st' dd' sf' cm' tl' k = k (vS a b c d tw th cs kn lv co bx xy pc od ly b1 b2 b3 b4 b5 b6 b7 b8 st dd sf cm tl a' b' c' d' tw' th' cs' kn' lv' co' bx' xy' pc' od' ly' b1' b2' b3' b4' b5' b6' b7' b8' st' dd' sf' cm' tl') := by
  unfold F12_0 G12_0 vS
  simp only [F24_v a b c d tw th cs a' b' c' d' tw' th' cs' kn lv co bx xy pc od ly b1 b2 b3 b4 b5 b6 b7 b8 st dd sf kn' lv' co' bx' xy' pc' od' ly' b1' b2' b3' b4' b5' b6' b7' b8' st' dd' sf' hc hc' lc hp hp' lp hs hs' ls, F25_v hm hm' lm, e_bn]
  cases vH a b c d tw th cs a' b' c' d' tw' th' cs' with
  | false => rfl
  | true => cases vP kn lv co bx xy pc od ly b1 b2 b3 b4 b5 b6 b7 b8 st dd sf kn' lv' co' bx' xy' pc' od' ly' b1' b2' b3' b4' b5' b6' b7' b8' st' dd' sf' with
    | false => rfl
    | true => cases eqL (cS cm cm') cm cm' with
      | false => rfl
      | true =>
        simp only [Bool.not_true, Bool.true_and]
        unfold eqL
        cases h : re.cm .neq (re.on (re.len tl)) (re.on (re.len tl')) with
        | true => rfl
        | false =>
          have hl : tl'.length = tl.length := by
            have := of_decide_eq_false h
            simp only [e_on, e_len, ne_eq, Classical.not_not] at this
            omega
          refine (L12_v a b c d tw th cs kn lv co bx xy pc od ly b1 b2 b3 b4 b5 b6 b7 b8 st dd sf cm tl a' b' c' d' tw' th' cs' kn' lv' co' bx' xy' pc' od' ly' b1' b2' b3' b4' b5' b6' b7' b8' st' dd' sf' cm' tl' ht ht' lt hl (by omega) (fun x => k x) (k true) tl.length 0 5000 (by omega) (by omega)).trans ?_
          cases allB (cT tl tl') tl.length 0 <;> rfl
theorem F13_v (a : Int) (b : Int) (c : Int) (d : Int) (tw : Int) (th : Int) (cs : List R) (kn : Int) (lv : Int) (co : Int) (bx : Int) (xy : Int) (pc : List R) (od : Int) (ly : Int) (b1 : Bool) (b2 : Bool) (b3 : Bool) (b4 : Bool) (b5 : Bool) (b6 : Bool) (b7 : Bool) (b8 : Bool) (st : List R) (dd : Int) (sf : Int) (cm : List R) (tl : List R) (a' : Int) (b' : Int) (c' : Int) (d' : Int) (tw' : Int) (th' : Int) (cs' : List R) (kn' : Int) (lv' : Int) (co' : Int) (bx' : Int) (xy' : Int) (pc' : List R) (od' : Int) (ly' : Int) (b1' : Bool) (b2' : Bool) (b3' : Bool) (b4' : Bool) (b5' : Bool) (b6' : Bool) (b7' : Bool) (b8' : Bool) (st' : List R) (dd' : Int) (sf' : Int) (cm' : List R) (tl' : List R) (hc : ∀ x ∈ cs, shOK (.ag hC) x) (hp : ∀ x ∈ pc, shOK (.ag hP) x) (hs : ∀ x ∈ st, shOK (.i .i64) x) (hm : ∀ x ∈ cm, shOK .s x) (ht : ∀ x ∈ tl, shOK (.sl 6 (.ag hK)) x) (hc' : ∀ x ∈ cs', shOK (.ag hC) x) (hp' : ∀ x ∈ pc', shOK (.ag hP) x) (hs' : ∀ x ∈ st', shOK (.i .i64) x) (hm' : ∀ x ∈ cm', shOK .s x) (ht' : ∀ x ∈ tl', shOK (.sl 6 (.ag hK)) x) (lc : cs.length < 5000) (lp : pc.length < 5000) (ls : st.length < 5000) (lm : cm.length < 5000) (ln : tl.length < 5000) (lt : ∀ i, i < tl.length → (rk.cl tl i 0).length < 5000) (k : Bool → Option Unit) : F13_0 re rk 5000 a b c d tw th cs kn lv co bx xy pc od ly b1 b2 b3 b4 b5 b6 b7 b8 st dd sf cm tl a' b' c' d' tw' th' cs' kn' lv' co' bx' xy' pc' od' ly' b1' b2' b3' b4' b5' b6' b7' b8' st' dd' sf' cm' tl' k = k (vS a b c d tw th cs kn lv co bx xy pc od ly b1 b2 b3 b4 b5 b6 b7 b8 st dd sf cm tl a' b' c' d' tw' th' cs' kn' lv' co' bx' xy' pc' od' ly' b1' b2' b3' b4' b5' b6' b7' b8' st' dd' sf' cm' tl') := by
  unfold F13_0 G13_0 vS
  simp only [F9_v a b c d tw th cs a' b' c' d' tw' th' cs' kn lv co bx xy pc od ly b1 b2 b3 b4 b5 b6 b7 b8 st dd sf kn' lv' co' bx' xy' pc' od' ly' b1' b2' b3' b4' b5' b6' b7' b8' st' dd' sf' hc hc' lc hp hp' lp hs hs' ls, F10_v hm hm' lm, e_bn]
  cases vH a b c d tw th cs a' b' c' d' tw' th' cs' with
  | false => rfl
  | true => cases vP kn lv co bx xy pc od ly b1 b2 b3 b4 b5 b6 b7 b8 st dd sf kn' lv' co' bx' xy' pc' od' ly' b1' b2' b3' b4' b5' b6' b7' b8' st' dd' sf' with
    | false => rfl
    | true => cases eqL (cS cm cm') cm cm' with
      | false => rfl
      | true =>
        simp only [Bool.not_true, Bool.true_and]
        unfold eqL
        cases h : re.cm .neq (re.on (re.len tl)) (re.on (re.len tl')) with
        | true => rfl
        | false =>
          have hl : tl'.length = tl.length := by
            have := of_decide_eq_false h
            simp only [e_on, e_len, ne_eq, Classical.not_not] at this
            omega
          refine (L13_v a b c d tw th cs kn lv co bx xy pc od ly b1 b2 b3 b4 b5 b6 b7 b8 st dd sf cm tl a' b' c' d' tw' th' cs' kn' lv' co' bx' xy' pc' od' ly' b1' b2' b3' b4' b5' b6' b7' b8' st' dd' sf' cm' tl' ht ht' lt hl (by omega) (fun x => k x) (k true) tl.length 0 5000 (by omega) (by omega)).trans ?_
          cases allB (cT tl tl') tl.length 0 <;> rfl
theorem vS_refl (a : Int) (b : Int) (c : Int) (d : Int) (tw : Int) (th : Int) (cs : List R) (kn : Int) (lv : Int) (co : Int) (bx : Int) (xy : Int) (pc : List R) (od : Int) (ly : Int) (b1 : Bool) (b2 : Bool) (b3 : Bool) (b4 : Bool) (b5 : Bool) (b6 : Bool) (b7 : Bool) (b8 : Bool) (st : List R) (dd : Int) (sf : Int) (cm : List R) (tl : List R) : vS a b c d tw th cs kn lv co bx xy pc od ly b1 b2 b3 b4 b5 b6 b7 b8 st dd sf cm tl a b c d tw th cs kn lv co bx xy pc od ly b1 b2 b3 b4 b5 b6 b7 b8 st dd sf cm tl = true := by
  unfold vS
  simp only [vH_refl, vP_refl, eqL_refl (cS_refl cm), eqL_refl (cT_refl tl), Bool.and_self]
theorem L11_4_v (a : Int) (b : Int) (c : Int) (d : Int) (tw : Int) (th : Int) (cs : List R) (kn : Int) (lv : Int) (co : Int) (bx : Int) (xy : Int) (pc : List R) (od : Int) (ly : Int) (b1 : Bool) (b2 : Bool) (b3 : Bool) (b4 : Bool) (b5 : Bool) (b6 : Bool) (b7 : Bool) (b8 : Bool) (st : List R) (dd : Int) (sf : Int) (x1 x2 cm : List R) (hm : ∀ x ∈ cm, shOK .s x) (hn : cm.length < 5000) (k0 : Q14 Unit) (k1 : Q15 Unit) : ∀ (cnt j n : Nat), j + cnt = cm.length → cnt < n →
    ∃ z : Bool, L11_4_0 re rk 5000 n k0 k1 a b c d tw th cs kn lv co bx xy pc od ly b1 b2 b3 b4 b5 b6 b7 b8 st dd sf x1 x2 cm (re.on (re.len cm)) (j : Int) = match z with | true => k1 a b c d tw th cs kn lv co bx xy pc od ly b1 b2 b3 b4 b5 b6 b7 b8 st dd sf x1 x2 | false => k0 a b c d tw th cs kn lv co bx xy pc od ly b1 b2 b3 b4 b5 b6 b7 b8 st dd sf x1 x2 false := by
  intro cnt
  induction cnt with
  | zero =>
    intro j n h hf
    obtain ⟨n, rfl⟩ : ∃ n', n = n' + 1 := ⟨n - 1, by omega⟩
    have hlt : re.cm .lss (j : Int) (re.on (re.len cm)) = false := decide_eq_false (by simp only [e_on, e_len]; omega)
    exact ⟨true, by simp only [L11_4_0, GL11_4_0, hlt]⟩
  | succ cnt ih =>
    intro j n h hf
    obtain ⟨n, rfl⟩ : ∃ n', n = n' + 1 := ⟨n - 1, by omega⟩
    have hlt : re.cm .lss (j : Int) (re.on (re.len cm)) = true := decide_eq_true (by simp only [e_on, e_len]; omega)
    have h1 : re.ix (j : Int) (re.len cm) = some j := e_ix (by simp only [e_len]; omega)
    have o1 := okE_1 (h := .s) rfl hm (show j < cm.length by omega)
    obtain ⟨z, hz⟩ := ih (j + 1) n (by omega) (by omega)
    cases hg : re.cm .gtr (re.on (re.ssz (rk.cs cm j 0))) 100 with
    | true => exact ⟨false, by simp only [L11_4_0, GL11_4_0, hlt, h1, o1, hg]⟩
    | false => exact ⟨z, by simp only [L11_4_0, GL11_4_0, hlt, h1, o1, hg, e_inc (show j < 4611686018427387904 by omega), hz]⟩
theorem L11_16_v (x1 : List R) (x2 x3 : Int) (l : List R) (hl : ∀ x ∈ l, shOK (.ag hK) x) (hn : l.length < 5000) (k0 : Bool → Int → List R → Int → Int → Option Unit) (k1 : Int → List R → Int → Int → Option Unit) : ∀ (cnt j n : Nat) (x0 : Int), j + cnt = l.length → cnt < n →
    ∃ (z : Bool) (y : Int), L11_16_0 re rk 5000 n k0 k1 x0 x1 x2 x3 l (re.on (re.len l)) (j : Int) = match z with | true => k1 y x1 x2 x3 | false => k0 false y x1 x2 x3 := by
  intro cnt
  induction cnt with
  | zero =>
    intro j n x0 h hf
    obtain ⟨n, rfl⟩ : ∃ n', n = n' + 1 := ⟨n - 1, by omega⟩
    have hlt : re.cm .lss (j : Int) (re.on (re.len l)) = false := decide_eq_false (by simp only [e_on, e_len]; omega)
    exact ⟨true, x0, by simp only [L11_16_0, GL11_16_0, hlt]⟩
  | succ cnt ih =>
    intro j n x0 h hf
    obtain ⟨n, rfl⟩ : ∃ n', n = n' + 1 := ⟨n - 1, by omega⟩
    have hlt : re.cm .lss (j : Int) (re.on (re.len l)) = true := decide_eq_true (by simp only [e_on, e_len]; omega)
    have h1 : re.ix (j : Int) (re.len l) = some j := e_ix (by simp only [e_len]; omega)
    have o1 := okE_ag (hs := hK) rfl hl (show j < l.length by omega)
    obtain ⟨z, y, hz⟩ := ih (j + 1) n (re.ar .add .i64 x0 (re.ar .add .i64 (re.on (re.len (rk.cl l j 4))) (re.on (re.len (rk.cl l j 5))))) (by omega) (by omega)
    cases hg : re.cm .gtr (re.on (re.len (rk.cl l j 4))) 5000 with
    | true => exact ⟨false, x0, by simp only [L11_16_0, GL11_16_0, hlt, h1, o1, hg]⟩
    | false => cases hg2 : re.cm .gtr (re.on (re.len (rk.cl l j 5))) 5000 with
      | true => exact ⟨false, x0, by simp only [L11_16_0, GL11_16_0, hlt, h1, o1, hg, hg2]⟩
      | false => exact ⟨z, y, by simp only [L11_16_0, GL11_16_0, hlt, h1, o1, hg, hg2, e_inc (show j < 4611686018427387904 by omega), hz]⟩
theorem L11_11_v (tl : List R) (ht : ∀ x ∈ tl, shOK (.sl 6 (.ag hK)) x) (hn : tl.length < 5000) (k0 : Bool → Option Unit) (k1 : Option Unit) : ∀ (cnt j n : Nat) (x0 : Int), j + cnt = tl.length → cnt < n →
    ∃ z : Bool, (z = true → ∀ i, j ≤ i → i < tl.length → (rk.cl tl i 0).length < 5000) ∧ L11_11_0 re rk 5000 n k0 k1 x0 tl (re.on (re.len tl)) (j : Int) = match z with | true => k1 | false => k0 false := by
  intro cnt
  induction cnt with
  | zero =>
    intro j n x0 h hf
    obtain ⟨n, rfl⟩ : ∃ n', n = n' + 1 := ⟨n - 1, by omega⟩
    have hlt : re.cm .lss (j : Int) (re.on (re.len tl)) = false := decide_eq_false (by simp only [e_on, e_len]; omega)
    exact ⟨true, fun _ i h1 h2 => by omega, by simp only [L11_11_0, GL11_11_0, hlt]⟩
  | succ cnt ih =>
    intro j n x0 h hf
    obtain ⟨n, rfl⟩ : ∃ n', n = n' + 1 := ⟨n - 1, by omega⟩
    have hlt : re.cm .lss (j : Int) (re.on (re.len tl)) = true := decide_eq_true (by simp only [e_on, e_len]; omega)
    have h1 : re.ix (j : Int) (re.len tl) = some j := e_ix (by simp only [e_len]; omega)
    have o1 := okE_1 (h := .sl 6 (.ag hK)) rfl ht (show j < tl.length by omega)
    cases hg : re.cm .gtr (re.on (re.len (rk.cl tl j 0))) 500 with
    | true => exact ⟨false, (fun h => by cases h), by simp only [L11_11_0, GL11_11_0, hlt, h1, o1, hg]⟩
    | false =>
      have hlj : (rk.cl tl j 0).length < 5000 := by
        have := of_decide_eq_false hg
        simp only [e_on, e_len] at this
        omega
      obtain ⟨z, y, hz⟩ := L11_16_v tl (re.on (re.len tl)) (j : Int) (rk.cl tl j 0) (cl_t ht (show j < tl.length by omega)) hlj
        (fun x5 _ _ _ _ => k0 x5) (fun xa xb xc xd => match re.cm .gtr xa 20000 with | true => k0 false | false => L11_11_0 re rk 5000 n k0 k1 xa xb xc (re.ar .add .i64 xd 1)) (rk.cl tl j 0).length 0 5000 x0 (by omega) (by omega)
      have hz' : L11_16_0 re rk 5000 5000 (fun x5 _ _ _ _ => k0 x5) (fun xa xb xc xd => match re.cm .gtr xa 20000 with | true => k0 false | false => L11_11_0 re rk 5000 n k0 k1 xa xb xc (re.ar .add .i64 xd 1)) x0 tl (re.on (re.len tl)) (j : Int) (rk.cl tl j 0) (re.on (re.len (rk.cl tl j 0))) 0 = _ := hz
      cases z with
      | false => exact ⟨false, (fun h => by cases h), by simp only [L11_11_0, GL11_11_0, hlt, h1, o1, hg]; exact hz'⟩
      | true =>
        cases hy : re.cm .gtr y 20000 with
        | true => exact ⟨false, (fun h => by cases h), by simp only [L11_11_0, GL11_11_0, hlt, h1, o1, hg]; refine hz'.trans ?_; simp only [hy]⟩
        | false =>
          obtain ⟨z2, h2, h3⟩ := ih (j + 1) n y (by omega) (by omega)
          refine ⟨z2, fun h i i1 i2 => ?_, ?_⟩
          · by_cases e : i = j
            · subst e; exact hlj
            · exact h2 h i (by omega) i2
          · simp only [L11_11_0, GL11_11_0, hlt, h1, o1, hg]
            refine hz'.trans ?_
            simp only [hy, e_inc (show j < 4611686018427387904 by omega)]
            exact h3
theorem F11_v (a : Int) (b : Int) (c : Int) (d : Int) (tw : Int) (th : Int) (cs : List R) (kn : Int) (lv : Int) (co : Int) (bx : Int) (xy : Int) (pc : List R) (od : Int) (ly : Int) (b1 : Bool) (b2 : Bool) (b3 : Bool) (b4 : Bool) (b5 : Bool) (b6 : Bool) (b7 : Bool) (b8 : Bool) (st : List R) (dd : Int) (sf : Int) (cm : List R) (tl : List R) (hc : ∀ x ∈ cs, shOK (.ag hC) x) (hp : ∀ x ∈ pc, shOK (.ag hP) x) (hs : ∀ x ∈ st, shOK (.i .i64) x) (hm : ∀ x ∈ cm, shOK .s x) (ht : ∀ x ∈ tl, shOK (.sl 6 (.ag hK)) x)
    (h18 : ∃ v : Bool, (v = true → cs.length < 5000 ∧ pc.length < 5000 ∧ st.length < 5000) ∧ ∀ k : Bool → Option Unit, F18_0 re rk 5000 a b c d tw th cs kn lv co bx xy pc od ly b1 b2 b3 b4 b5 b6 b7 b8 st dd sf k = k v) (k : Bool → Option Unit) :
    ∃ v : Bool, (v = true → cs.length < 5000 ∧ pc.length < 5000 ∧ st.length < 5000 ∧ cm.length < 5000 ∧ tl.length < 5000 ∧ ∀ i, i < tl.length → (rk.cl tl i 0).length < 5000) ∧ F11_0 re rk 5000 a b c d tw th cs kn lv co bx xy pc od ly b1 b2 b3 b4 b5 b6 b7 b8 st dd sf cm tl k = k v := by
  obtain ⟨v, h1, h2⟩ := h18
  unfold F11_0 G11_0
  simp only [h2, e_bn]
  cases v with
  | false => exact ⟨false, (fun h => by cases h), rfl⟩
  | true =>
    obtain ⟨l1, l2, l3⟩ := h1 rfl
    simp only [Bool.not_true]
    cases g1 : re.cm .gtr (re.on (re.len cm)) 20 with
    | true => exact ⟨false, (fun h => by cases h), rfl⟩
    | false =>
      have lm : cm.length < 5000 := by
        have := of_decide_eq_false g1
        simp only [e_on, e_len] at this
        omega
      cases g2 : re.cm .gtr (re.on (re.len tl)) 20 with
      | true => exact ⟨false, (fun h => by cases h), rfl⟩
      | false =>
        have ln : tl.length < 5000 := by
          have := of_decide_eq_false g2
          simp only [e_on, e_len] at this
          omega
        simp only
        obtain ⟨z2, h3, h4⟩ := L11_11_v tl ht ln (fun x => k x) (k true) tl.length 0 5000 0 (by omega) (by omega)
        refine Exists.elim (L11_4_v a b c d tw th cs kn lv co bx xy pc od ly b1 b2 b3 b4 b5 b6 b7 b8 st dd sf cm tl cm hm lm (fun _ _ _ _ _ _ _ _ _ _ _ _ _ _ _ _ _ _ _ _ _ _ _ _ _ _ _ _ x => k x) (fun _ _ _ _ _ _ _ _ _ _ _ _ _ _ _ _ _ _ _ _ _ _ _ _ _ _ _ x2d => L11_11_0 re rk 5000 5000 (fun x2e => k x2e) (k true) 0 x2d (re.on (re.len x2d)) 0) cm.length 0 5000 (by omega) (by omega)) fun z hz => ?_
        cases z with
        | false => exact ⟨false, (fun h => by cases h), hz⟩
        | true =>
          refine ⟨z2, fun h => ⟨l1, l2, l3, lm, ln, fun i hi => h3 h i (Nat.zero_le _) hi⟩, hz.trans (h4.trans ?_)⟩
          cases z2 <;> rfl
theorem F11_k (a : Int) (b : Int) (c : Int) (d : Int) (tw : Int) (th : Int) (cs : List R) (kn : Int) (lv : Int) (co : Int) (bx : Int) (xy : Int) (pc : List R) (od : Int) (ly : Int) (b1 : Bool) (b2 : Bool) (b3 : Bool) (b4 : Bool) (b5 : Bool) (b6 : Bool) (b7 : Bool) (b8 : Bool) (st : List R) (dd : Int) (sf : Int) (cm : List R) (tl : List R) (hc : ∀ x ∈ cs, shOK (.ag hC) x) (hp : ∀ x ∈ pc, shOK (.ag hP) x) (hs : ∀ x ∈ st, shOK (.i .i64) x) (hm : ∀ x ∈ cm, shOK .s x) (ht : ∀ x ∈ tl, shOK (.sl 6 (.ag hK)) x)
    (h18 : ∃ v : Bool, (v = true → cs.length < 5000 ∧ pc.length < 5000 ∧ st.length < 5000) ∧ ∀ k : Bool → Option Unit, F18_0 re rk 5000 a b c d tw th cs kn lv co bx xy pc od ly b1 b2 b3 b4 b5 b6 b7 b8 st dd sf k = k v) {k : Bool → Option Unit}
    (h : ∀ v : Bool, (v = true → cs.length < 5000 ∧ pc.length < 5000 ∧ st.length < 5000 ∧ cm.length < 5000 ∧ tl.length < 5000 ∧ ∀ i, i < tl.length → (rk.cl tl i 0).length < 5000) → k v = some ()) : F11_0 re rk 5000 a b c d tw th cs kn lv co bx xy pc od ly b1 b2 b3 b4 b5 b6 b7 b8 st dd sf cm tl k = some () := by
  obtain ⟨v, h1, h2⟩ := F11_v a b c d tw th cs kn lv co bx xy pc od ly b1 b2 b3 b4 b5 b6 b7 b8 st dd sf cm tl hc hp hs hm ht h18 k
  rw [h2]
  exact h v h1
theorem p4 (a : Int) (b : Int) (c : Int) (d : Int) (tw : Int) (th : Int) (cs : List R) (kn : Int) (lv : Int) (co : Int) (bx : Int) (xy : Int) (pc : List R) (od : Int) (ly : Int) (b1 : Bool) (b2 : Bool) (b3 : Bool) (b4 : Bool) (b5 : Bool) (b6 : Bool) (b7 : Bool) (b8 : Bool) (st : List R) (dd : Int) (sf : Int) (cm : List R) (tl : List R) (a' : Int) (b' : Int) (c' : Int) (d' : Int) (tw' : Int) (th' : Int) (cs' : List R) (kn' : Int) (lv' : Int) (co' : Int) (bx' : Int) (xy' : Int) (pc' : List R) (od' : Int) (ly' : Int) (b1' : Bool) (b2' : Bool) (b3' : Bool) (b4' : Bool) (b5' : Bool) (b6' : Bool) (b7' : Bool) (b8' : Bool) (st' : List R) (dd' : Int) (sf' : Int) (cm' : List R) (tl' : List R) (hc : ∀ x ∈ cs, shOK (.ag hC) x) (hp : ∀ x ∈ pc, shOK (.ag hP) x) (hs : ∀ x ∈ st, shOK (.i .i64) x) (hm : ∀ x ∈ cm, shOK .s x) (ht : ∀ x ∈ tl, shOK (.sl 6 (.ag hK)) x) (hc' : ∀ x ∈ cs', shOK (.ag hC) x) (hp' : ∀ x ∈ pc', shOK (.ag hP) x) (hs' : ∀ x ∈ st', shOK (.i .i64) x) (hm' : ∀ x ∈ cm', shOK .s x) (ht' : ∀ x ∈ tl', shOK (.sl 6 (.ag hK)) x)
    (h18 : ∃ v : Bool, (v = true → cs.length < 5000 ∧ pc.length < 5000 ∧ st.length < 5000) ∧ ∀ k : Bool → Option Unit, F18_0 re rk 5000 a b c d tw th cs kn lv co bx xy pc od ly b1 b2 b3 b4 b5 b6 b7 b8 st dd sf k = k v)
    (h18' : ∃ v : Bool, (v = true → cs'.length < 5000 ∧ pc'.length < 5000 ∧ st'.length < 5000) ∧ ∀ k : Bool → Option Unit, F18_0 re rk 5000 a' b' c' d' tw' th' cs' kn' lv' co' bx' xy' pc' od' ly' b1' b2' b3' b4' b5' b6' b7' b8' st' dd' sf' k = k v) : F4_0 re rk 5000 a b c d tw th cs kn lv co bx xy pc od ly b1 b2 b3 b4 b5 b6 b7 b8 st dd sf cm tl a' b' c' d' tw' th' cs' kn' lv' co' bx' xy' pc' od' ly' b1' b2' b3' b4' b5' b6' b7' b8' st' dd' sf' cm' tl' (fun y => yes (T.r (R.b y)) []) = some () := by
  unfold F4_0 G4_0
  refine F11_k a b c d tw th cs kn lv co bx xy pc od ly b1 b2 b3 b4 b5 b6 b7 b8 st dd sf cm tl hc hp hs hm ht h18 fun v h1 => ?_
  cases v with
  | false => rfl
  | true =>
    obtain ⟨l1, l2, l3, l4, l5, l6⟩ := h1 rfl
    simp only [e_bn, Bool.not_true]
    refine F11_k a' b' c' d' tw' th' cs' kn' lv' co' bx' xy' pc' od' ly' b1' b2' b3' b4' b5' b6' b7' b8' st' dd' sf' cm' tl' hc' hp' hs' hm' ht' h18' fun v' h1' => ?_
    cases v' with
    | false => rfl
    | true =>
      simp only [Bool.not_true, F12_v a b c d tw th cs kn lv co bx xy pc od ly b1 b2 b3 b4 b5 b6 b7 b8 st dd sf cm tl a' b' c' d' tw' th' cs' kn' lv' co' bx' xy' pc' od' ly' b1' b2' b3' b4' b5' b6' b7' b8' st' dd' sf' cm' tl' hc hp hs hm ht hc' hp' hs' hm' ht' l1 l2 l3 l4 l5 l6, F13_v a b c d tw th cs kn lv co bx xy pc od ly b1 b2 b3 b4 b5 b6 b7 b8 st dd sf cm tl a' b' c' d' tw' th' cs' kn' lv' co' bx' xy' pc' od' ly' b1' b2' b3' b4' b5' b6' b7' b8' st' dd' sf' cm' tl' hc hp hs hm ht hc' hp' hs' hm' ht' l1 l2 l3 l4 l5 l6, F12_v a b c d tw th cs kn lv co bx xy pc od ly b1 b2 b3 b4 b5 b6 b7 b8 st dd sf cm tl a b c d tw th cs kn lv co bx xy pc od ly b1 b2 b3 b4 b5 b6 b7 b8 st dd sf cm tl hc hp hs hm ht hc hp hs hm ht l1 l2 l3 l4 l5 l6, vS_refl, be_refl]
      rfl
end Go.Proofs.YthlnfebecphcmaaGreat
