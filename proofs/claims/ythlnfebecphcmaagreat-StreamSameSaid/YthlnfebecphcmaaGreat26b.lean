/-
  Headers, parameters, streams compared.
-/
import Derived.Test.YthlnfebecphcmaaGreat26a
set_option linter.unusedVariables false
set_option linter.unusedSimpArgs false
set_option maxRecDepth 100000
namespace Go.Proofs.YthlnfebecphcmaaGreat
open Go.Os
open Go.ChangeShapes Go.WideShapes Go.ChangeAt Go.RowKit
def vH (a : Int) (b : Int) (c : Int) (d : Int) (tw : Int) (th : Int) (cs : List R) (a' : Int) (b' : Int) (c' : Int) (d' : Int) (tw' : Int) (th' : Int) (cs' : List R) : Bool := (re.ba (re.cm .eql a a') (re.ba (re.cm .eql b b') (re.ba (re.cm .eql c c') (re.ba (re.cm .eql d d') true)))) && ((re.cm .eql tw tw') && ((re.cm .eql th th') && (eqL (cC cs cs') cs cs')))
def vP (kn : Int) (lv : Int) (co : Int) (bx : Int) (xy : Int) (pc : List R) (od : Int) (ly : Int) (b1 : Bool) (b2 : Bool) (b3 : Bool) (b4 : Bool) (b5 : Bool) (b6 : Bool) (b7 : Bool) (b8 : Bool) (st : List R) (dd : Int) (sf : Int) (kn' : Int) (lv' : Int) (co' : Int) (bx' : Int) (xy' : Int) (pc' : List R) (od' : Int) (ly' : Int) (b1' : Bool) (b2' : Bool) (b3' : Bool) (b4' : Bool) (b5' : Bool) (b6' : Bool) (b7' : Bool) (b8' : Bool) (st' : List R) (dd' : Int) (sf' : Int) : Bool := (re.cm .eql kn kn') && ((re.cm .eql lv lv') && ((re.cm .eql co co') && ((re.cm .eql bx bx') && ((re.cm .eql xy xy') && ((re.cm .eql od od') && ((re.cm .eql ly ly') && ((re.ba (re.be b1 b1') (re.ba (re.be b2 b2') (re.ba (re.be b3 b3') (re.ba (re.be b4 b4') (re.ba (re.be b5 b5') true))))) && ((re.be b6 b6') && ((re.be b7 b7') && ((re.be b8 b8') && ((re.cm .eql dd dd') && ((re.cm .eql sf sf') && ((eqL (cP pc pc') pc pc') && (eqL (cI st st') st st'))))))))))))))
theorem chn (t0 t1 t2 t3 t4 t5 t6 t7 t8 t9 t10 t11 t12 e1 e2 : Bool) (K : Bool → Option Unit) : (match t0 with | true => (match t1 with | true => (match t2 with | true => (match t3 with | true => (match t4 with | true => (match t5 with | true => (match t6 with | true => (match t7 with | true => (match t8 with | true => (match t9 with | true => (match t10 with | true => (match t11 with | true => (match t12 with | true => (match e1 with | true => K e2 | false => K false) | false => K false) | false => K false) | false => K false) | false => K false) | false => K false) | false => K false) | false => K false) | false => K false) | false => K false) | false => K false) | false => K false) | false => K false) | false => K false) = K ((t0) && ((t1) && ((t2) && ((t3) && ((t4) && ((t5) && ((t6) && ((t7) && ((t8) && ((t9) && ((t10) && ((t11) && ((t12) && ((e1) && (e2))))))))))))))) := by
  cases t0 with
  | false => rfl
  | true =>
    cases t1 with
    | false => rfl
    | true =>
      cases t2 with
      | false => rfl
      | true =>
        cases t3 with
        | false => rfl
        | true =>
          cases t4 with
          | false => rfl
          | true =>
            cases t5 with
            | false => rfl
            | true =>
              cases t6 with
              | false => rfl
              | true =>
                cases t7 with
                | false => rfl
                | true =>
                  cases t8 with
                  | false => rfl
                  | true =>
                    cases t9 with
                    | false => rfl
                    | true =>
                      cases t10 with
                      | false => rfl
                      | true =>
                        cases t11 with
                        | false => rfl
                        | true =>
                          cases t12 with
                          | false => rfl
                          | true =>
                            cases e1 <;> rfl
theorem F24_v (a : Int) (b : Int) (c : Int) (d : Int) (tw : Int) (th : Int) (cs : List R) (a' : Int) (b' : Int) (c' : Int) (d' : Int) (tw' : Int) (th' : Int) (cs' : List R) (kn : Int) (lv : Int) (co : Int) (bx : Int) (xy : Int) (pc : List R) (od : Int) (ly : Int) (b1 : Bool) (b2 : Bool) (b3 : Bool) (b4 : Bool) (b5 : Bool) (b6 : Bool) (b7 : Bool) (b8 : Bool) (st : List R) (dd : Int) (sf : Int) (kn' : Int) (lv' : Int) (co' : Int) (bx' : Int) (xy' : Int) (pc' : List R) (od' : Int) (ly' : Int) (b1' : Bool) (b2' : Bool) (b3' : Bool) (b4' : Bool) (b5' : Bool) (b6' : Bool) (b7' : Bool) (b8' : Bool) (st' : List R) (dd' : Int) (sf' : Int) (hc : ∀ x ∈ cs, shOK (.ag hC) x) (hc' : ∀ x ∈ cs', shOK (.ag hC) x) (lc : cs.length < 5000) (hp : ∀ x ∈ pc, shOK (.ag hP) x) (hp' : ∀ x ∈ pc', shOK (.ag hP) x) (lp : pc.length < 5000) (hs : ∀ x ∈ st, shOK (.i .i64) x) (hs' : ∀ x ∈ st', shOK (.i .i64) x) (ls : st.length < 5000) (k : Bool → Bool → Option Unit) :
    F24_0 re rk 5000 a b c d tw th cs a' b' c' d' tw' th' cs' kn lv co bx xy pc od ly b1 b2 b3 b4 b5 b6 b7 b8 st dd sf kn' lv' co' bx' xy' pc' od' ly' b1' b2' b3' b4' b5' b6' b7' b8' st' dd' sf' k = k (vH a b c d tw th cs a' b' c' d' tw' th' cs') (vP kn lv co bx xy pc od ly b1 b2 b3 b4 b5 b6 b7 b8 st dd sf kn' lv' co' bx' xy' pc' od' ly' b1' b2' b3' b4' b5' b6' b7' b8' st' dd' sf') := by
  unfold F24_0 G24_0 vH vP
  simp only [J24_2_0, GJ24_2_0, F49_v hc hc' lc, F50_v hp hp' lp, F51_v hs hs' ls]
  generalize re.cm .eql kn kn' = t0
  generalize re.cm .eql lv lv' = t1
  generalize re.cm .eql co co' = t2
  generalize re.cm .eql bx bx' = t3
  generalize re.cm .eql xy xy' = t4
  generalize re.cm .eql od od' = t5
  generalize re.cm .eql ly ly' = t6
  generalize re.ba (re.be b1 b1') (re.ba (re.be b2 b2') (re.ba (re.be b3 b3') (re.ba (re.be b4 b4') (re.ba (re.be b5 b5') true)))) = t7
  generalize re.be b6 b6' = t8
  generalize re.be b7 b7' = t9
  generalize re.be b8 b8' = t10
  generalize re.cm .eql dd dd' = t11
  generalize re.cm .eql sf sf' = t12
  generalize eqL (cP pc pc') pc pc' = e1
  generalize eqL (cI st st') st st' = e2
  generalize eqL (cC cs cs') cs cs' = e0
  cases re.ba (re.cm .eql a a') (re.ba (re.cm .eql b b') (re.ba (re.cm .eql c c') (re.ba (re.cm .eql d d') true))) with
  | false => exact chn t0 t1 t2 t3 t4 t5 t6 t7 t8 t9 t10 t11 t12 e1 e2 (k false)
  | true => cases re.cm .eql tw tw' with
    | false => exact chn t0 t1 t2 t3 t4 t5 t6 t7 t8 t9 t10 t11 t12 e1 e2 (k false)
    | true => cases re.cm .eql th th' with
      | false => exact chn t0 t1 t2 t3 t4 t5 t6 t7 t8 t9 t10 t11 t12 e1 e2 (k false)
      | true => exact chn t0 t1 t2 t3 t4 t5 t6 t7 t8 t9 t10 t11 t12 e1 e2 (k e0)
theorem L22_v (a : Int) (b : Int) (c : Int) (d : Int) (tw : Int) (th : Int) (cs : List R) (a' : Int) (b' : Int) (c' : Int) (d' : Int) (tw' : Int) (th' : Int) (cs' : List R) (hc : ∀ x ∈ cs, shOK (.ag hC) x) (hc' : ∀ x ∈ cs', shOK (.ag hC) x) (lc : cs.length < 5000) (hl : cs'.length = cs.length) (k0 : Bool → Option Unit) (k1 : Option Unit) : ∀ (cnt j n : Nat), j + cnt = cs.length → cnt < n →
    L22_4_0 re rk 5000 n k0 k1 a b c d tw th cs a' b' c' d' tw' th' cs' (j : Int) = match allB (cC cs cs') cnt j with | true => k1 | false => k0 false := by
  intro cnt
  induction cnt with
  | zero =>
    intro j n h hf
    obtain ⟨n, rfl⟩ : ∃ n', n = n' + 1 := ⟨n - 1, by omega⟩
    have hlt : re.cm .lss (j : Int) (re.on (re.len cs)) = false := decide_eq_false (by simp only [e_on, e_len]; omega)
    simp only [L22_4_0, GL22_4_0, hlt, allB]
  | succ cnt ih =>
    intro j n h hf
    obtain ⟨n, rfl⟩ : ∃ n', n = n' + 1 := ⟨n - 1, by omega⟩
    have hlt : re.cm .lss (j : Int) (re.on (re.len cs)) = true := decide_eq_true (by simp only [e_on, e_len]; omega)
    have h1 : re.ix (j : Int) (re.len cs) = some j := e_ix (by simp only [e_len]; omega)
    have h2 : re.ix (j : Int) (re.len cs') = some j := e_ix (by simp only [e_len]; omega)
    have o1 := okE_ag rfl hc (show j < cs.length by omega)
    have o2 := okE_ag rfl hc' (show j < cs'.length by omega)
    simp only [L22_4_0, GL22_4_0, hlt, h1, h2, o1, o2, e_inc (show j < 4611686018427387904 by omega), ih (j + 1) n (by omega) (by omega), allB, e_bn]
    have hcell : cC cs cs' j = re.ba (re.cm .eql (rk.ci cs j 0) (rk.ci cs' j 0)) (re.ba (re.be (rk.cb cs j 1) (rk.cb cs' j 1)) (re.ba (re.cm .eql (rk.ci cs j 2) (rk.ci cs' j 2)) (re.ba (re.cm .eql (rk.ci cs j 3) (rk.ci cs' j 3)) true))) := rfl
    rw [← hcell]
    cases cC cs cs' j <;> rfl
theorem F22_v (a : Int) (b : Int) (c : Int) (d : Int) (tw : Int) (th : Int) (cs : List R) (a' : Int) (b' : Int) (c' : Int) (d' : Int) (tw' : Int) (th' : Int) (cs' : List R) (hc : ∀ x ∈ cs, shOK (.ag hC) x) (hc' : ∀ x ∈ cs', shOK (.ag hC) x) (lc : cs.length < 5000) (k : Bool → Option Unit) : F22_0 re rk 5000 a b c d tw th cs a' b' c' d' tw' th' cs' k = k (vH a b c d tw th cs a' b' c' d' tw' th' cs') := by
  unfold F22_0 G22_0 vH
  simp only [e_bn, neq_not]
  cases re.ba (re.cm .eql a a') (re.ba (re.cm .eql b b') (re.ba (re.cm .eql c c') (re.ba (re.cm .eql d d') true))) with
  | false => rfl
  | true => cases re.cm .eql tw tw' with
    | false => rfl
    | true => cases re.cm .eql th th' with
      | false => rfl
      | true =>
        unfold eqL
        simp only [neq_not]
        cases h : re.cm .eql (re.on (re.len cs)) (re.on (re.len cs')) with
        | false => rfl
        | true =>
          have hl : cs'.length = cs.length := by
            have := of_decide_eq_true h
            simp only [e_on, e_len] at this
            omega
          refine (L22_v a b c d tw th cs a' b' c' d' tw' th' cs' hc hc' lc hl (fun x => k x) (k true) cs.length 0 5000 (by omega) (by omega)).trans ?_
          simp only [Bool.not_true, Bool.true_and]
          cases allB (cC cs cs') cs.length 0 <;> rfl
theorem L23_4_v (kn : Int) (lv : Int) (co : Int) (bx : Int) (xy : Int) (pc : List R) (od : Int) (ly : Int) (b1 : Bool) (b2 : Bool) (b3 : Bool) (b4 : Bool) (b5 : Bool) (b6 : Bool) (b7 : Bool) (b8 : Bool) (st : List R) (dd : Int) (sf : Int) (kn' : Int) (lv' : Int) (co' : Int) (bx' : Int) (xy' : Int) (pc' : List R) (od' : Int) (ly' : Int) (b1' : Bool) (b2' : Bool) (b3' : Bool) (b4' : Bool) (b5' : Bool) (b6' : Bool) (b7' : Bool) (b8' : Bool) (st' : List R) (dd' : Int) (sf' : Int) (hp : ∀ x ∈ pc, shOK (.ag hP) x) (hp' : ∀ x ∈ pc', shOK (.ag hP) x) (lp : pc.length < 5000) (hs : ∀ x ∈ st, shOK (.i .i64) x) (hs' : ∀ x ∈ st', shOK (.i .i64) x) (ls : st.length < 5000) (hl : pc'.length = pc.length) (k0 : Q20 Unit) (k1 : Q21 Unit) : ∀ (cnt j n : Nat), j + cnt = pc.length → cnt < n →
    L23_4_0 re rk 5000 n k0 k1 kn lv co bx xy pc od ly b1 b2 b3 b4 b5 b6 b7 b8 st dd sf kn' lv' co' bx' xy' pc' od' ly' b1' b2' b3' b4' b5' b6' b7' b8' st' dd' sf' (j : Int) = match allB (cP pc pc') cnt j with | true => k1 kn lv co bx xy pc od ly b1 b2 b3 b4 b5 b6 b7 b8 st dd sf kn' lv' co' bx' xy' pc' od' ly' b1' b2' b3' b4' b5' b6' b7' b8' st' dd' sf' | false => k0 kn lv co bx xy pc od ly b1 b2 b3 b4 b5 b6 b7 b8 st dd sf kn' lv' co' bx' xy' pc' od' ly' b1' b2' b3' b4' b5' b6' b7' b8' st' dd' sf' false := by
  intro cnt
  induction cnt with
  | zero =>
    intro j n h hf
    obtain ⟨n, rfl⟩ : ∃ n', n = n' + 1 := ⟨n - 1, by omega⟩
    have hlt : re.cm .lss (j : Int) (re.on (re.len pc)) = false := decide_eq_false (by simp only [e_on, e_len]; omega)
    simp only [L23_4_0, GL23_4_0, hlt, allB]
  | succ cnt ih =>
    intro j n h hf
    obtain ⟨n, rfl⟩ : ∃ n', n = n' + 1 := ⟨n - 1, by omega⟩
    have hlt : re.cm .lss (j : Int) (re.on (re.len pc)) = true := decide_eq_true (by simp only [e_on, e_len]; omega)
    have h1 : re.ix (j : Int) (re.len pc) = some j := e_ix (by simp only [e_len]; omega)
    have h2 : re.ix (j : Int) (re.len pc') = some j := e_ix (by simp only [e_len]; omega)
    have o1 := okE_ag rfl hp (show j < pc.length by omega)
    have o2 := okE_ag rfl hp' (show j < pc'.length by omega)
    simp only [L23_4_0, GL23_4_0, hlt, h1, h2, o1, o2, e_inc (show j < 4611686018427387904 by omega), ih (j + 1) n (by omega) (by omega), allB, e_bn, neq_not]
    have hcell : cP pc pc' j = re.ba (re.cm .eql (rk.ci pc j 0) (rk.ci pc' j 0)) (re.ba (re.cm .eql (rk.ci pc j 1) (rk.ci pc' j 1)) true) := rfl
    rw [← hcell]
    cases cP pc pc' j <;> rfl
theorem L23_9_v (kn : Int) (lv : Int) (co : Int) (bx : Int) (xy : Int) (pc : List R) (od : Int) (ly : Int) (b1 : Bool) (b2 : Bool) (b3 : Bool) (b4 : Bool) (b5 : Bool) (b6 : Bool) (b7 : Bool) (b8 : Bool) (st : List R) (dd : Int) (sf : Int) (kn' : Int) (lv' : Int) (co' : Int) (bx' : Int) (xy' : Int) (pc' : List R) (od' : Int) (ly' : Int) (b1' : Bool) (b2' : Bool) (b3' : Bool) (b4' : Bool) (b5' : Bool) (b6' : Bool) (b7' : Bool) (b8' : Bool) (st' : List R) (dd' : Int) (sf' : Int) (hp : ∀ x ∈ pc, shOK (.ag hP) x) (hp' : ∀ x ∈ pc', shOK (.ag hP) x) (lp : pc.length < 5000) (hs : ∀ x ∈ st, shOK (.i .i64) x) (hs' : ∀ x ∈ st', shOK (.i .i64) x) (ls : st.length < 5000) (hl : st'.length = st.length) (k0 : Bool → Option Unit) (k1 : Option Unit) : ∀ (cnt j n : Nat), j + cnt = st.length → cnt < n →
    L23_9_0 re rk 5000 n k0 k1 kn lv co bx xy pc od ly b1 b2 b3 b4 b5 b6 b7 b8 st dd sf kn' lv' co' bx' xy' pc' od' ly' b1' b2' b3' b4' b5' b6' b7' b8' st' dd' sf' (j : Int) = match allB (cI st st') cnt j with | true => k1 | false => k0 false := by
  intro cnt
  induction cnt with
  | zero =>
    intro j n h hf
    obtain ⟨n, rfl⟩ : ∃ n', n = n' + 1 := ⟨n - 1, by omega⟩
    have hlt : re.cm .lss (j : Int) (re.on (re.len st)) = false := decide_eq_false (by simp only [e_on, e_len]; omega)
    simp only [L23_9_0, GL23_9_0, hlt, allB]
  | succ cnt ih =>
    intro j n h hf
    obtain ⟨n, rfl⟩ : ∃ n', n = n' + 1 := ⟨n - 1, by omega⟩
    have hlt : re.cm .lss (j : Int) (re.on (re.len st)) = true := decide_eq_true (by simp only [e_on, e_len]; omega)
    have h1 : re.ix (j : Int) (re.len st) = some j := e_ix (by simp only [e_len]; omega)
    have h2 : re.ix (j : Int) (re.len st') = some j := e_ix (by simp only [e_len]; omega)
    have o1 := okE_1 rfl hs (show j < st.length by omega)
    have o2 := okE_1 rfl hs' (show j < st'.length by omega)
    simp only [L23_9_0, GL23_9_0, hlt, h1, h2, o1, o2, e_inc (show j < 4611686018427387904 by omega), ih (j + 1) n (by omega) (by omega), allB, e_bn, neq_not]
    have hcell : cI st st' j = re.cm .eql (rk.ci st j 0) (rk.ci st' j 0) := rfl
    rw [← hcell]
    cases cI st st' j <;> rfl
theorem F23_v (kn : Int) (lv : Int) (co : Int) (bx : Int) (xy : Int) (pc : List R) (od : Int) (ly : Int) (b1 : Bool) (b2 : Bool) (b3 : Bool) (b4 : Bool) (b5 : Bool) (b6 : Bool) (b7 : Bool) (b8 : Bool) (st : List R) (dd : Int) (sf : Int) (kn' : Int) (lv' : Int) (co' : Int) (bx' : Int) (xy' : Int) (pc' : List R) (od' : Int) (ly' : Int) (b1' : Bool) (b2' : Bool) (b3' : Bool) (b4' : Bool) (b5' : Bool) (b6' : Bool) (b7' : Bool) (b8' : Bool) (st' : List R) (dd' : Int) (sf' : Int) (hp : ∀ x ∈ pc, shOK (.ag hP) x) (hp' : ∀ x ∈ pc', shOK (.ag hP) x) (lp : pc.length < 5000) (hs : ∀ x ∈ st, shOK (.i .i64) x) (hs' : ∀ x ∈ st', shOK (.i .i64) x) (ls : st.length < 5000) (k : Bool → Option Unit) : F23_0 re rk 5000 kn lv co bx xy pc od ly b1 b2 b3 b4 b5 b6 b7 b8 st dd sf kn' lv' co' bx' xy' pc' od' ly' b1' b2' b3' b4' b5' b6' b7' b8' st' dd' sf' k = k (vP kn lv co bx xy pc od ly b1 b2 b3 b4 b5 b6 b7 b8 st dd sf kn' lv' co' bx' xy' pc' od' ly' b1' b2' b3' b4' b5' b6' b7' b8' st' dd' sf') := by
  unfold F23_0 G23_0 vP
  simp only [e_bn, neq_not]
  cases re.cm .eql kn kn' with
  | false => rfl
  | true =>
    cases re.cm .eql lv lv' with
    | false => rfl
    | true =>
      cases re.cm .eql co co' with
      | false => rfl
      | true =>
        cases re.cm .eql bx bx' with
        | false => rfl
        | true =>
          cases re.cm .eql xy xy' with
          | false => rfl
          | true =>
            cases re.cm .eql od od' with
            | false => rfl
            | true =>
              cases re.cm .eql ly ly' with
              | false => rfl
              | true =>
                cases re.ba (re.be b1 b1') (re.ba (re.be b2 b2') (re.ba (re.be b3 b3') (re.ba (re.be b4 b4') (re.ba (re.be b5 b5') true)))) with
                | false => rfl
                | true =>
                  cases re.be b6 b6' with
                  | false => rfl
                  | true =>
                    cases re.be b7 b7' with
                    | false => rfl
                    | true =>
                      cases re.be b8 b8' with
                      | false => rfl
                      | true =>
                        cases re.cm .eql dd dd' with
                        | false => rfl
                        | true =>
                          cases re.cm .eql sf sf' with
                          | false => rfl
                          | true =>
                            unfold eqL
                            simp only [neq_not]
                            cases h1 : re.cm .eql (re.on (re.len pc)) (re.on (re.len pc')) with
                            | false => rfl
                            | true =>
                              cases h2 : re.cm .eql (re.on (re.len st)) (re.on (re.len st')) with
                              | false =>
                                simp only [Bool.not_true, Bool.not_false, Bool.and_false]
                              | true =>
                                have l1 : pc'.length = pc.length := by
                                  have := of_decide_eq_true h1
                                  simp only [e_on, e_len] at this
                                  omega
                                have l2 : st'.length = st.length := by
                                  have := of_decide_eq_true h2
                                  simp only [e_on, e_len] at this
                                  omega
                                simp only [Bool.not_true, Bool.true_and]
                                refine (L23_4_v kn lv co bx xy pc od ly b1 b2 b3 b4 b5 b6 b7 b8 st dd sf kn' lv' co' bx' xy' pc' od' ly' b1' b2' b3' b4' b5' b6' b7' b8' st' dd' sf' hp hp' lp hs hs' ls l1 _ _ pc.length 0 5000 (by omega) (by omega)).trans ?_
                                cases allB (cP pc pc') pc.length 0 with
                                | false => rfl
                                | true =>
                                  refine (L23_9_v kn lv co bx xy pc od ly b1 b2 b3 b4 b5 b6 b7 b8 st dd sf kn' lv' co' bx' xy' pc' od' ly' b1' b2' b3' b4' b5' b6' b7' b8' st' dd' sf' hp hp' lp hs hs' ls l2 _ _ st.length 0 5000 (by omega) (by omega)).trans ?_
                                  cases allB (cI st st') st.length 0 <;> rfl
theorem F9_v (a : Int) (b : Int) (c : Int) (d : Int) (tw : Int) (th : Int) (cs : List R) (a' : Int) (b' : Int) (c' : Int) (d' : Int) (tw' : Int) (th' : Int) (cs' : List R) (kn : Int) (lv : Int) (co : Int) (bx : Int) (xy : Int) (pc : List R) (od : Int) (ly : Int) (b1 : Bool) (b2 : Bool) (b3 : Bool) (b4 : Bool) (b5 : Bool) (b6 : Bool) (b7 : Bool) (b8 : Bool) (st : List R) (dd : Int) (sf : Int) (kn' : Int) (lv' : Int) (co' : Int) (bx' : Int) (xy' : Int) (pc' : List R) (od' : Int) (ly' : Int) (b1' : Bool) (b2' : Bool) (b3' : Bool) (b4' : Bool) (b5' : Bool) (b6' : Bool) (b7' : Bool) (b8' : Bool) (st' : List R) (dd' : Int) (sf' : Int) (hc : ∀ x ∈ cs, shOK (.ag hC) x) (hc' : ∀ x ∈ cs', shOK (.ag hC) x) (lc : cs.length < 5000) (hp : ∀ x ∈ pc, shOK (.ag hP) x) (hp' : ∀ x ∈ pc', shOK (.ag hP) x) (lp : pc.length < 5000) (hs : ∀ x ∈ st, shOK (.i .i64) x) (hs' : ∀ x ∈ st', shOK (.i .i64) x) (ls : st.length < 5000) (k : Bool → Bool → Option Unit) :
    F9_0 re rk 5000 a b c d tw th cs a' b' c' d' tw' th' cs' kn lv co bx xy pc od ly b1 b2 b3 b4 b5 b6 b7 b8 st dd sf kn' lv' co' bx' xy' pc' od' ly' b1' b2' b3' b4' b5' b6' b7' b8' st' dd' sf' k = k (vH a b c d tw th cs a' b' c' d' tw' th' cs') (vP kn lv co bx xy pc od ly b1 b2 b3 b4 b5 b6 b7 b8 st dd sf kn' lv' co' bx' xy' pc' od' ly' b1' b2' b3' b4' b5' b6' b7' b8' st' dd' sf') := by
  unfold F9_0 G9_0
  simp only [F22_v a b c d tw th cs a' b' c' d' tw' th' cs' hc hc' lc, F23_v kn lv co bx xy pc od ly b1 b2 b3 b4 b5 b6 b7 b8 st dd sf kn' lv' co' bx' xy' pc' od' ly' b1' b2' b3' b4' b5' b6' b7' b8' st' dd' sf' hp hp' lp hs hs' ls]
theorem vH_refl (a : Int) (b : Int) (c : Int) (d : Int) (tw : Int) (th : Int) (cs : List R) : vH a b c d tw th cs a b c d tw th cs = true := by
  have e : re.ba true (re.ba true (re.ba true (re.ba true true))) = true := rfl
  unfold vH
  simp only [eql_refl, e, eqL_refl (cC_refl cs), Bool.and_self]
theorem vP_refl (kn : Int) (lv : Int) (co : Int) (bx : Int) (xy : Int) (pc : List R) (od : Int) (ly : Int) (b1 : Bool) (b2 : Bool) (b3 : Bool) (b4 : Bool) (b5 : Bool) (b6 : Bool) (b7 : Bool) (b8 : Bool) (st : List R) (dd : Int) (sf : Int) : vP kn lv co bx xy pc od ly b1 b2 b3 b4 b5 b6 b7 b8 st dd sf kn lv co bx xy pc od ly b1 b2 b3 b4 b5 b6 b7 b8 st dd sf = true := by
  have e : re.ba true (re.ba true (re.ba true (re.ba true (re.ba true true)))) = true := rfl
  unfold vP
  simp only [eql_refl, be_refl, e, eqL_refl (cP_refl pc), eqL_refl (cI_refl st), Bool.and_self]
end Go.Proofs.YthlnfebecphcmaaGreat
