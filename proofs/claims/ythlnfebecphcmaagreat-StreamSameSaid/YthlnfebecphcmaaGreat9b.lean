/-
  The numbers of parameters: the program's and the reference's answer are the same.
-/
import Derived.Test.YthlnfebecphcmaaGreat9a
set_option linter.unusedVariables false
set_option linter.unusedSimpArgs false
set_option maxRecDepth 100000
namespace Go.Proofs.YthlnfebecphcmaaGreat
open Go.Os
open Go.ChangeShapes Go.WideShapes Go.ChangeAt Go.RowKit
abbrev shP2 : List Sh := [.i .i64, .i .i64]
theorem lss_n (x l : Int) : re.cm .lss x l = !(re.cm .leq l x) := by rw [e_lss, e_leq]; by_cases e : x < l <;> simp [e] <;> omega
theorem gtr_n (x h : Int) : re.cm .gtr x h = !(re.cm .leq x h) := by rw [e_gtr, e_leq]; by_cases e : h < x <;> simp [e] <;> omega
theorem v77_in {x l h : Int} (e : v77 x l h = true) : l ≤ x ∧ x ≤ h := by
  unfold v77 at e
  simp only [e_leq, Bool.and_eq_true, decide_eq_true_eq] at e
  exact e
theorem F62_v (kn lv co bx xy : Int) (pc : List R) (od ly : Int) (b1 b2 b3 b4 b5 b6 b7 b8 : Bool) (st : List R) (dd sf : Int) (k : Bool → Option Unit) : F62_0 re rk 5000 kn lv co bx xy pc od ly b1 b2 b3 b4 b5 b6 b7 b8 st dd sf k = k (v77 kn 1 3 && (v77 co 0 2 && v77 od 1 5)) := by
  unfold F62_0 G62_0 v77
  simp only [e_geq, e_leq]
  cases decide (1 ≤ kn) <;> cases decide (kn ≤ 3) <;> cases decide (0 ≤ co) <;> cases decide (co ≤ 2) <;> cases decide (1 ≤ od) <;> rfl
theorem steps_loop (kn lv co bx xy : Int) (pc : List R) (od ly : Int) (b1 b2 b3 b4 b5 b6 b7 b8 : Bool) (st : List R) (dd sf : Int) (hs : ∀ x ∈ st, shOK (.i .i64) x) (hlen : st.length < 5000) : ∀ (cnt j n m : Nat), st.length - j = cnt → j ≤ st.length → cnt < n → cnt < m →
    ∃ v : Bool, (∀ (k0 : Int → Int → Int → Int → Int → List R → Int → Int → Bool → Bool → Bool → Bool → Bool → Bool → Bool → Bool → List R → Int → Int → Bool → Option Unit) (k1 : Int → Int → Int → Int → Int → List R → Int → Int → Bool → Bool → Bool → Bool → Bool → Bool → Bool → Bool → List R → Int → Int → Option Unit), L63_4_0 re rk 5000 n k0 k1 kn lv co bx xy pc od ly b1 b2 b3 b4 b5 b6 b7 b8 st dd sf (j : Int) = (match v with | true => k1 kn lv co bx xy pc od ly b1 b2 b3 b4 b5 b6 b7 b8 st dd sf | false => k0 kn lv co bx xy pc od ly b1 b2 b3 b4 b5 b6 b7 b8 st dd sf false)) ∧
      (∀ (k0 : Int → Int → Bool → Option Unit) (k1 : Int → Int → Option Unit), L89_2_0 re rk 5000 m k0 k1 1 65536 st (re.on (re.len st)) (j : Int) = (match v with | true => k1 1 65536 | false => k0 1 65536 false)) := by
  intro cnt
  induction cnt with
  | zero =>
    intro j n m h1 h2 hn hm
    obtain ⟨n, rfl⟩ : ∃ n', n = n' + 1 := ⟨n - 1, by omega⟩
    obtain ⟨m, rfl⟩ : ∃ n', m = n' + 1 := ⟨m - 1, by omega⟩
    have hlt : re.cm .lss (j : Int) (re.on (re.len st)) = false := decide_eq_false (by simp only [e_on, e_len]; omega)
    exact ⟨true, fun k0 k1 => by simp only [L63_4_0, GL63_4_0, hlt], fun k0 k1 => by simp only [L89_2_0, GL89_2_0, hlt]⟩
  | succ cnt ih =>
    intro j n m h1 h2 hn hm
    obtain ⟨n, rfl⟩ : ∃ n', n = n' + 1 := ⟨n - 1, by omega⟩
    obtain ⟨m, rfl⟩ : ∃ n', m = n' + 1 := ⟨m - 1, by omega⟩
    have hj : j < st.length := by omega
    have hlt : re.cm .lss (j : Int) (re.on (re.len st)) = true := decide_eq_true (by simp only [e_on, e_len]; omega)
    have hix : re.ix (j : Int) (re.len st) = some j := e_ix hj
    have hok : rk.okE [.i .i64] false st j = true := okE_1 rfl hs hj
    have hinc : re.ar .add .i64 (j : Int) 1 = ((j + 1 : Nat) : Int) := e_inc (by omega)
    obtain ⟨z, z1, z2⟩ := ih (j + 1) n m (by omega) (by omega) (by omega) (by omega)
    cases c0 : re.cm .leq 1 (rk.ci st j 0) with
    | false => exact ⟨false, fun k0 k1 => by simp only [L63_4_0, GL63_4_0, hlt, hix, hok, F57_v, v77, c0, e_bn, Bool.false_and, Bool.not_false], fun k0 k1 => by simp only [L89_2_0, GL89_2_0, hlt, hix, hok, lss_n (rk.ci st j 0) 1, c0, Bool.not_false]⟩
    | true => cases c1 : re.cm .leq (rk.ci st j 0) 65536 with
      | false => exact ⟨false, fun k0 k1 => by simp only [L63_4_0, GL63_4_0, hlt, hix, hok, F57_v, v77, c0, c1, e_bn, Bool.and_false, Bool.not_false], fun k0 k1 => by simp only [L89_2_0, GL89_2_0, hlt, hix, hok, lss_n (rk.ci st j 0) 1, gtr_n (rk.ci st j 0) 65536, c0, c1, Bool.not_false, Bool.not_true]⟩
      | true => exact ⟨z, fun k0 k1 => by simp only [L63_4_0, GL63_4_0, hlt, hix, hok, F57_v, v77, c0, c1, e_bn, Bool.and_self, Bool.not_true, hinc, z1], fun k0 k1 => by simp only [L89_2_0, GL89_2_0, hlt, hix, hok, lss_n (rk.ci st j 0) 1, gtr_n (rk.ci st j 0) 65536, c0, c1, Bool.not_true, hinc, z2]⟩
theorem prec_loop (a b c d tw th : Int) (cs : List R) (kn lv co bx xy : Int) (pc : List R) (od ly : Int) (b1 b2 b3 b4 b5 b6 b7 b8 : Bool) (st : List R) (dd sf : Int) (hp : ∀ x ∈ pc, shOK (.ag shP2) x) (hlen : pc.length < 5000) : ∀ (cnt j n m : Nat), pc.length - j = cnt → j ≤ pc.length → cnt < n → cnt < m →
    ∃ v : Bool, (v = true → ∀ i : Nat, j ≤ i → i < pc.length → v77 (rk.ci pc i 0) (re.mn (i : Int) 1) 12 = true ∧ v77 (rk.ci pc i 1) (re.mn (i : Int) 1) 12 = true) ∧
      (∀ (k0 : Bool → Option Unit) (k1 : Option Unit), L63_13_0 re rk 5000 n k0 k1 kn lv co bx xy pc od ly b1 b2 b3 b4 b5 b6 b7 b8 st dd sf (j : Int) = (match v with | true => k1 | false => k0 false)) ∧
      (∀ (k0 : Int → Int → Int → Int → Int → Int → List R → Int → Int → Int → Int → Int → List R → Int → Int → Bool → Bool → Bool → Bool → Bool → Bool → Bool → Bool → List R → Int → Int → Bool → Option Unit) (k1 : Int → Int → Int → Int → Int → Int → List R → Int → Int → Int → Int → Int → List R → Int → Int → Bool → Bool → Bool → Bool → Bool → Bool → Bool → Bool → List R → Int → Int → Option Unit), L90_6t1_0 re rk 5000 m k0 k1 a b c d tw th cs kn lv co bx xy pc od ly b1 b2 b3 b4 b5 b6 b7 b8 st dd sf pc (re.on (re.len pc)) (j : Int) = (match v with | true => k1 a b c d tw th cs kn lv co bx xy pc od ly b1 b2 b3 b4 b5 b6 b7 b8 st dd sf | false => k0 a b c d tw th cs kn lv co bx xy pc od ly b1 b2 b3 b4 b5 b6 b7 b8 st dd sf false)) := by
  intro cnt
  induction cnt with
  | zero =>
    intro j n m h1 h2 hn hm
    obtain ⟨n, rfl⟩ : ∃ n', n = n' + 1 := ⟨n - 1, by omega⟩
    obtain ⟨m, rfl⟩ : ∃ n', m = n' + 1 := ⟨m - 1, by omega⟩
    have hlt : re.cm .lss (j : Int) (re.on (re.len pc)) = false := decide_eq_false (by simp only [e_on, e_len]; omega)
    exact ⟨true, fun _ i h3 h4 => by omega, fun k0 k1 => by simp only [L63_13_0, GL63_13_0, hlt], fun k0 k1 => by simp only [L90_6t1_0, GL90_6t1_0, hlt]⟩
  | succ cnt ih =>
    intro j n m h1 h2 hn hm
    obtain ⟨n, rfl⟩ : ∃ n', n = n' + 1 := ⟨n - 1, by omega⟩
    obtain ⟨m, rfl⟩ : ∃ n', m = n' + 1 := ⟨m - 1, by omega⟩
    have hj : j < pc.length := by omega
    have hlt : re.cm .lss (j : Int) (re.on (re.len pc)) = true := decide_eq_true (by simp only [e_on, e_len]; omega)
    have hix : re.ix (j : Int) (re.len pc) = some j := e_ix hj
    have hok : rk.okE shP2 true pc j = true := okE_ag rfl hp hj
    have hinc : re.ar .add .i64 (j : Int) 1 = ((j + 1 : Nat) : Int) := e_inc (by omega)
    obtain ⟨z, z0, z1, z2⟩ := ih (j + 1) n m (by omega) (by omega) (by omega) (by omega)
    cases c0 : v77 (rk.ci pc j 0) (re.mn (j : Int) 1) 12 with
    | false => exact ⟨false, (fun h => by cases h), fun k0 k1 => by simp only [L63_13_0, GL63_13_0, hlt, hix, hok, F57_v, c0, e_bn, Bool.not_false], fun k0 k1 => by simp only [L90_6t1_0, GL90_6t1_0, hlt, hix, hok, F89_b, c0, e_bn, Bool.false_and, Bool.not_false]⟩
    | true => cases c1 : v77 (rk.ci pc j 1) (re.mn (j : Int) 1) 12 with
      | false => exact ⟨false, (fun h => by cases h), fun k0 k1 => by simp only [L63_13_0, GL63_13_0, hlt, hix, hok, F57_v, c0, c1, e_bn, Bool.not_false, Bool.not_true], fun k0 k1 => by simp only [L90_6t1_0, GL90_6t1_0, hlt, hix, hok, F89_b, c0, c1, e_bn, Bool.and_false, Bool.not_false]⟩
      | true =>
        refine ⟨z, fun hz i h3 h4 => ?_, fun k0 k1 => by simp only [L63_13_0, GL63_13_0, hlt, hix, hok, F57_v, c0, c1, e_bn, Bool.not_true, hinc, z1], fun k0 k1 => by simp only [L90_6t1_0, GL90_6t1_0, hlt, hix, hok, F89_b, c0, c1, e_bn, Bool.and_self, Bool.not_true, hinc, z2]⟩
        rcases Nat.eq_or_lt_of_le h3 with rfl | h3
        · exact ⟨c0, c1⟩
        · exact z0 hz i h3 h4
def PF (lv bx xy : Int) (pc : List R) (ly : Int) : Prop := 0 ≤ lv ∧ lv ≤ 5 ∧ 2 ≤ bx ∧ bx ≤ 6 ∧ 2 ≤ xy ∧ xy ≤ 6 ∧ 1 ≤ ly ∧ ly ≤ 16 ∧
  (pc.length = 0 ∨ ((pc.length : Int) = lv + 1 ∧ ∀ i : Nat, i < pc.length → v77 (rk.ci pc i 0) (re.mn (i : Int) 1) 12 = true ∧ v77 (rk.ci pc i 1) (re.mn (i : Int) 1) 12 = true))
def sameC (cs : List R) (i j : Nat) : Bool := re.ba (re.cm .eql (rk.ci cs i 0) (rk.ci cs j 0)) (re.ba (re.be (rk.cb cs i 1) (rk.cb cs j 1)) (re.ba (re.cm .eql (rk.ci cs i 2) (rk.ci cs j 2)) (re.ba (re.cm .eql (rk.ci cs i 3) (rk.ci cs j 3)) true)))
def vcol (co : Int) (cs : List R) : Bool := re.cm .eql co 0 || (re.cm .geq (re.on (re.len cs)) 3 && (sameC cs 0 1 && sameC cs 0 2))
theorem numb (a b c d tw th : Int) (cs : List R) (kn lv co bx xy : Int) (pc : List R) (od ly : Int) (b1 b2 b3 b4 b5 b6 b7 b8 : Bool) (st : List R) (dd sf : Int) (hc : ∀ x ∈ cs, shOK (.ag shC4) x) (hp : ∀ x ∈ pc, shOK (.ag shP2) x) (hs : ∀ x ∈ st, shOK (.i .i64) x) (h5 : pc.length < 5000) (h6 : st.length < 5000) :
    ∃ u : Bool, (u = true → PF lv bx xy pc ly) ∧ (∀ k : Bool → Option Unit, F63_0 re rk 5000 kn lv co bx xy pc od ly b1 b2 b3 b4 b5 b6 b7 b8 st dd sf k = k u) ∧ (∀ k : Bool → Option Unit, F90_1 re rk 5000 a b c d tw th cs kn lv co bx xy pc od ly b1 b2 b3 b4 b5 b6 b7 b8 st dd sf k = k (u && vcol co cs)) := by
  obtain ⟨v, v1, v2⟩ := steps_loop kn lv co bx xy pc od ly b1 b2 b3 b4 b5 b6 b7 b8 st dd sf hs h6 st.length 0 5000 5000 (by omega) (by omega) (by omega) (by omega)
  obtain ⟨w, w0, w1, w2⟩ := prec_loop a b c d tw th cs kn lv co bx xy pc od ly b1 b2 b3 b4 b5 b6 b7 b8 st dd sf hp h5 pc.length 0 5000 5000 (by omega) (by omega) (by omega) (by omega)
  have v1' : ∀ (k0 : Int → Int → Int → Int → Int → List R → Int → Int → Bool → Bool → Bool → Bool → Bool → Bool → Bool → Bool → List R → Int → Int → Bool → Option Unit) (k1 : Int → Int → Int → Int → Int → List R → Int → Int → Bool → Bool → Bool → Bool → Bool → Bool → Bool → Bool → List R → Int → Int → Option Unit), L63_4_0 re rk 5000 5000 k0 k1 kn lv co bx xy pc od ly b1 b2 b3 b4 b5 b6 b7 b8 st dd sf 0 = _ := v1
  have v2' : ∀ (k : Bool → Option Unit), F89_0 re rk 5000 1 65536 st k = k v := fun k => by
    show L89_2_0 re rk 5000 5000 (fun _ _ y => k y) (fun _ _ => k true) 1 65536 st (re.on (re.len st)) 0 = k v
    rw [show L89_2_0 re rk 5000 5000 (fun _ _ y => k y) (fun _ _ => k true) 1 65536 st (re.on (re.len st)) 0 = _ from v2 _ _]
    cases v <;> rfl
  have w1' : ∀ (k0 : Bool → Option Unit) (k1 : Option Unit), L63_13_0 re rk 5000 5000 k0 k1 kn lv co bx xy pc od ly b1 b2 b3 b4 b5 b6 b7 b8 st dd sf 0 = _ := w1
  have w2' : ∀ (k0 : Int → Int → Int → Int → Int → Int → List R → Int → Int → Int → Int → Int → List R → Int → Int → Bool → Bool → Bool → Bool → Bool → Bool → Bool → Bool → List R → Int → Int → Bool → Option Unit) (k1 : Int → Int → Int → Int → Int → Int → List R → Int → Int → Int → Int → Int → List R → Int → Int → Bool → Bool → Bool → Bool → Bool → Bool → Bool → Bool → List R → Int → Int → Option Unit), L90_6t1_0 re rk 5000 5000 k0 k1 a b c d tw th cs kn lv co bx xy pc od ly b1 b2 b3 b4 b5 b6 b7 b8 st dd sf pc (re.on (re.len pc)) 0 = _ := w2
  have hcol : ∀ k : Bool → Option Unit, (match re.cm .eql co 0 with
      | true => k true
      | false => (match re.cm .geq (re.on (re.len cs)) 3 with
        | true => (match re.ix 0 (re.len cs) with
          | some i => (match rk.okE shC4 true cs i with
            | true => (match re.ix 1 (re.len cs) with
              | some i' => (match rk.okE shC4 true cs i' with
                | true => (match sameC cs i i' with
                  | true => (match re.ix 0 (re.len cs) with
                    | some i => (match rk.okE shC4 true cs i with
                      | true => (match re.ix 2 (re.len cs) with
                        | some i' => (match rk.okE shC4 true cs i' with
                          | true => k (sameC cs i i')
                          | false => none)
                        | none => none)
                      | false => none)
                    | none => none)
                  | false => k false)
                | false => none)
              | none => none)
            | false => none)
          | none => none)
        | false => k false)) = k (vcol co cs) := by
    intro k
    unfold vcol
    cases re.cm .eql co 0 with
    | true => rfl
    | false => cases h3 : re.cm .geq (re.on (re.len cs)) 3 with
      | false => rfl
      | true =>
        have hl : 3 ≤ cs.length := by
          have := of_decide_eq_true h3
          simp only [e_on, e_len] at this
          omega
        have i0 : re.ix 0 (re.len cs) = some 0 := e_ix (n := cs.length) (j := 0) (by omega)
        have i1 : re.ix 1 (re.len cs) = some 1 := e_ix (n := cs.length) (j := 1) (by omega)
        have i2 : re.ix 2 (re.len cs) = some 2 := e_ix (n := cs.length) (j := 2) (by omega)
        have o0 : rk.okE shC4 true cs 0 = true := okE_ag rfl hc (by omega)
        have o1 : rk.okE shC4 true cs 1 = true := okE_ag rfl hc (by omega)
        have o2 : rk.okE shC4 true cs 2 = true := okE_ag rfl hc (by omega)
        simp only [i0, i1, i2, o0, o1, o2]
        cases sameC cs 0 1 <;> rfl
  have hw : re.cm .neq (re.on (re.len pc)) 0 = false → w = true := fun h => by
    have h := of_decide_eq_false h
    simp only [e_on, e_len, ne_eq, Classical.not_not] at h
    have hlt : re.cm .lss 0 (re.on (re.len pc)) = false := decide_eq_false (by simp only [e_on, e_len]; omega)
    have := w1' (fun _ => none) (some ())
    simp only [L63_13_0, GL63_13_0, hlt] at this
    cases w with
    | true => rfl
    | false => cases this
  have hneg : re.cm .eql (re.on (re.len pc)) 0 = !(re.cm .neq (re.on (re.len pc)) 0) := by
    rw [e_eql, e_neq]; by_cases e : re.on (re.len pc) = 0 <;> simp [e]
  refine ⟨v77 lv 0 5 && (v77 bx 2 6 && (v77 xy 2 6 && (v77 ly 1 16 && (v77 dd 8 32 && (v77 sf 0 30 && (!(re.cm .neq (re.on (re.len st)) (re.ar .add .i64 (re.ar .mul .i64 3 lv) 1)) && (v && (!(re.cm .neq (re.on (re.len pc)) 0) || (!(re.cm .neq (re.on (re.len pc)) (re.ar .add .i64 lv 1)) && w))))))))), ?_, ?_, ?_⟩
  · intro hu
    simp only [Bool.and_eq_true, Bool.or_eq_true, Bool.not_eq_true'] at hu
    obtain ⟨u1, u2, u3, u4, _, _, _, _, u9⟩ := hu
    have u1 := v77_in u1
    have u2 := v77_in u2
    have u3 := v77_in u3
    have u4 := v77_in u4
    refine ⟨u1.1, u1.2, u2.1, u2.2, u3.1, u3.2, u4.1, u4.2, ?_⟩
    rcases u9 with h | ⟨h, h'⟩
    · left
      have h := of_decide_eq_false h
      simp only [e_on, e_len, ne_eq, Classical.not_not] at h
      omega
    · right
      have h := of_decide_eq_false h
      simp only [e_on, e_len, ne_eq, Classical.not_not] at h
      rw [show re.ar .add .i64 lv 1 = lv + 1 from wrap64 (by omega) (by omega)] at h
      exact ⟨h, fun i hi => w0 h' i (by omega) hi⟩
  · intro k
    unfold F63_0 G63_0
    simp only [F57_v, e_bn, hneg]
    cases v77 lv 0 5 with
    | false => rfl
    | true => cases v77 bx 2 6 with
      | false => rfl
      | true => cases v77 xy 2 6 with
        | false => rfl
        | true => cases v77 ly 1 16 with
          | false => rfl
          | true => cases v77 dd 8 32 with
            | false => rfl
            | true => cases v77 sf 0 30 with
              | false => rfl
              | true => cases re.cm .neq (re.on (re.len st)) (re.ar .add .i64 (re.ar .mul .i64 3 lv) 1) with
                | true => rfl
                | false =>
                  simp only [v1', Bool.not_true, hneg]
                  cases v with
                  | false => rfl
                  | true => cases re.cm .neq (re.on (re.len pc)) 0 with
                    | false => rfl
                    | true => cases re.cm .neq (re.on (re.len pc)) (re.ar .add .i64 lv 1) with
                      | true => rfl
                      | false =>
                        simp only [w1', Bool.not_true]
                        cases w <;> rfl
  · intro k
    have hk := hcol k
    unfold F90_1 G90_1
    simp only [F89_a, F89_b, e_bn, w2', v2']
    cases v77 lv 0 5 with
    | false => rfl
    | true => cases v77 bx 2 6 with
      | false => rfl
      | true => cases v77 xy 2 6 with
        | false => rfl
        | true => cases a4 : re.cm .neq (re.on (re.len pc)) 0 with
          | false =>
            rw [hw a4]
            cases v77 ly 1 16 with
            | false => simp only [Bool.not_true, Bool.not_false, Bool.false_and, Bool.and_false, Bool.true_and, Bool.and_true, Bool.or_false, Bool.or_true, Bool.true_or, Bool.false_or]
            | true => cases re.cm .neq (re.on (re.len st)) (re.ar .add .i64 (re.ar .mul .i64 3 lv) 1) with
              | true => simp only [Bool.not_true, Bool.not_false, Bool.false_and, Bool.and_false, Bool.true_and, Bool.and_true, Bool.or_false, Bool.or_true, Bool.true_or, Bool.false_or]
              | false => cases v with
                | false => simp only [Bool.not_true, Bool.not_false, Bool.false_and, Bool.and_false, Bool.true_and, Bool.and_true, Bool.or_false, Bool.or_true, Bool.true_or, Bool.false_or]
                | true => cases v77 dd 8 32 with
                  | false => simp only [Bool.not_true, Bool.not_false, Bool.false_and, Bool.and_false, Bool.true_and, Bool.and_true, Bool.or_false, Bool.or_true, Bool.true_or, Bool.false_or]
                  | true => cases v77 sf 0 30 with
                    | false => simp only [Bool.not_true, Bool.not_false, Bool.false_and, Bool.and_false, Bool.true_and, Bool.and_true, Bool.or_false, Bool.or_true, Bool.true_or, Bool.false_or]
                    | true => exact Eq.trans (by kernel_rfl) hk
          | true => cases re.cm .neq (re.on (re.len pc)) (re.ar .add .i64 lv 1) with
            | true => simp only [Bool.not_true, Bool.not_false, Bool.false_and, Bool.and_false, Bool.true_and, Bool.and_true, Bool.or_false, Bool.or_true, Bool.true_or, Bool.false_or]
            | false => cases w with
              | false => simp only [Bool.not_true, Bool.not_false, Bool.false_and, Bool.and_false, Bool.true_and, Bool.and_true, Bool.or_false, Bool.or_true, Bool.true_or, Bool.false_or]
              | true => cases v77 ly 1 16 with
                | false => simp only [Bool.not_true, Bool.not_false, Bool.false_and, Bool.and_false, Bool.true_and, Bool.and_true, Bool.or_false, Bool.or_true, Bool.true_or, Bool.false_or]
                | true => cases re.cm .neq (re.on (re.len st)) (re.ar .add .i64 (re.ar .mul .i64 3 lv) 1) with
                  | true => simp only [Bool.not_true, Bool.not_false, Bool.false_and, Bool.and_false, Bool.true_and, Bool.and_true, Bool.or_false, Bool.or_true, Bool.true_or, Bool.false_or]
                  | false => cases v with
                    | false => simp only [Bool.not_true, Bool.not_false, Bool.false_and, Bool.and_false, Bool.true_and, Bool.and_true, Bool.or_false, Bool.or_true, Bool.true_or, Bool.false_or]
                    | true => cases v77 dd 8 32 with
                      | false => simp only [Bool.not_true, Bool.not_false, Bool.false_and, Bool.and_false, Bool.true_and, Bool.and_true, Bool.or_false, Bool.or_true, Bool.true_or, Bool.false_or]
                      | true => cases v77 sf 0 30 with
                        | false => simp only [Bool.not_true, Bool.not_false, Bool.false_and, Bool.and_false, Bool.true_and, Bool.and_true, Bool.or_false, Bool.or_true, Bool.true_or, Bool.false_or]
                        | true => exact Eq.trans (by kernel_rfl) hk
end Go.Proofs.YthlnfebecphcmaaGreat
