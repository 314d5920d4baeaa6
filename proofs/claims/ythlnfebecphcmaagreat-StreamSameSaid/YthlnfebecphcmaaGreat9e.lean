/-
  Check of parameters: the program's and the reference's answer are the same. Few is decided for every input.
-/
import Derived.Test.YthlnfebecphcmaaGreat9d
set_option linter.unusedVariables false
set_option linter.unusedSimpArgs false
set_option maxRecDepth 100000
namespace Go.Proofs.YthlnfebecphcmaaGreat
open Go.Os
open Go.ChangeShapes Go.WideShapes Go.ChangeAt Go.RowKit
theorem tiles_loop (a b c d tw th : Int) (cs : List R) (kn lv co bx xy : Int) (pc : List R) (od ly : Int) (b1 b2 b3 b4 b5 b6 b7 b8 : Bool) (st : List R) (dd sf : Int) (hc : ∀ x ∈ cs, shOK (.ag shC4) x) (hp : ∀ x ∈ pc, shOK (.ag shP2) x) (hf : PF lv bx xy pc ly) (hlen : cs.length < 4000) {l : List R} (hl : ∀ x ∈ l, isR x) (hll : l.length < 5000) : ∀ (cnt j n m : Nat), l.length - j = cnt → j ≤ l.length → cnt < n → cnt < m →
    ∃ z : Bool, (∀ (k0 : Int → Option Unit) (k1 : Option Unit), L37_13_0 re rk 5000 n k0 k1 a b c d tw th cs kn lv co bx xy pc od ly b1 b2 b3 b4 b5 b6 b7 b8 st dd sf l (j : Int) = (match z with | true => k0 5 | false => k1)) ∧
      (∀ (k0 : Int → Option Unit) (k1 : Option Unit), L46_9t1_0 re rk 5000 m k0 k1 a b c d tw th cs kn lv co bx xy pc od ly b1 b2 b3 b4 b5 b6 b7 b8 st dd sf l (re.on (re.len l)) (j : Int) = (match z with | true => k0 5 | false => k1)) := by
  intro cnt
  induction cnt with
  | zero =>
    intro j n m h1 h2 hn hm
    obtain ⟨n, rfl⟩ : ∃ n', n = n' + 1 := ⟨n - 1, by omega⟩
    obtain ⟨m, rfl⟩ : ∃ n', m = n' + 1 := ⟨m - 1, by omega⟩
    have hlt : re.cm .lss (j : Int) (re.on (re.len l)) = false := decide_eq_false (by simp only [e_on, e_len]; omega)
    exact ⟨false, fun k0 k1 => by simp only [L37_13_0, GL37_13_0, hlt], fun k0 k1 => by simp only [L46_9t1_0, GL46_9t1_0, hlt]⟩
  | succ cnt ih =>
    intro j n m h1 h2 hn hm
    obtain ⟨n, rfl⟩ : ∃ n', n = n' + 1 := ⟨n - 1, by omega⟩
    obtain ⟨m, rfl⟩ : ∃ n', m = n' + 1 := ⟨m - 1, by omega⟩
    have hj : j < l.length := by omega
    have hlt : re.cm .lss (j : Int) (re.on (re.len l)) = true := decide_eq_true (by simp only [e_on, e_len]; omega)
    have hix : re.ix (j : Int) (re.len l) = some j := e_ix hj
    have hok : rk.okC [.i .i64, .i .i64, .i .i64, .i .i64] l j 0 = true := isR_ok hl hj
    have hinc : re.ar .add .i64 (j : Int) 1 = ((j + 1 : Nat) : Int) := e_inc (by omega)
    obtain ⟨P, M, f1, f2, f3⟩ := fits a b c d tw th cs kn lv co bx xy pc od ly b1 b2 b3 b4 b5 b6 b7 b8 st dd sf hc hp hf hlen (rk.ci l j 0) (rk.ci l j 1) (rk.ci l j 2) (rk.ci l j 3)
    obtain ⟨z, z1, z2⟩ := ih (j + 1) n m (by omega) (by omega) (by omega) (by omega)
    cases c0 : re.cm .gtr P 65536 with
    | true => exact ⟨true, fun k0 k1 => by simp only [L37_13_0, GL37_13_0, hlt, hix, hok, f1, c0], fun k0 k1 => by simp only [L46_9t1_0, GL46_9t1_0, hlt, hix, hok, f3, c0, e_bn, Bool.not_true, Bool.false_and, Bool.not_false]⟩
    | false => cases c1 : re.cm .gtr M 65536 with
      | true => exact ⟨true, fun k0 k1 => by simp only [L37_13_0, GL37_13_0, hlt, hix, hok, f1, f2, c0, c1], fun k0 k1 => by simp only [L46_9t1_0, GL46_9t1_0, hlt, hix, hok, f3, c0, c1, e_bn, Bool.not_true, Bool.and_false, Bool.not_false]⟩
      | false => exact ⟨z, fun k0 k1 => by simp only [L37_13_0, GL37_13_0, hlt, hix, hok, f1, f2, c0, c1, hinc, z1], fun k0 k1 => by simp only [L46_9t1_0, GL46_9t1_0, hlt, hix, hok, f3, c0, c1, e_bn, Bool.not_true, Bool.and_self, Bool.not_false, hinc, z2]⟩
structure HT (a b c d tw th : Int) (cs : List R) (e : Int) (l : List R) : Prop where
  hf : e = 0 → HF a b c d tw th cs
  h49 : ∀ k : Int → Option Unit, F34_0 re rk 5000 a b c d tw th cs k = k e
  h45 : ∀ k : Int → Option Unit, F67_0 re rk 5000 a b c d tw th cs k = k e
  h88 : ∀ k : List R → Option Unit, F61_0 re rk 5000 a b c d tw th k = k l
  h95 : ∀ k : List R → Option Unit, F68_0 re rk 5000 a b c d tw th k = k l
  hl : ∀ x ∈ l, isR x
theorem check (a b c d tw th : Int) (cs : List R) (kn lv co bx xy : Int) (pc : List R) (od ly : Int) (b1 b2 b3 b4 b5 b6 b7 b8 : Bool) (st : List R) (dd sf : Int) (hc : ∀ x ∈ cs, shOK (.ag shC4) x) (hp : ∀ x ∈ pc, shOK (.ag shP2) x) (hs : ∀ x ∈ st, shOK (.i .i64) x) (h5 : pc.length < 5000) (h6 : st.length < 5000) {e : Int} {l : List R} (ht : HT a b c d tw th cs e l) (hll : e = 0 → l.length < 5000) :
    ∃ r : Int, (r = 0 → e = 0 ∧ PF lv bx xy pc ly) ∧ (∀ k : Int → Option Unit, F37_0 re rk 5000 a b c d tw th cs kn lv co bx xy pc od ly b1 b2 b3 b4 b5 b6 b7 b8 st dd sf k = k r) ∧ (∀ k : Int → Option Unit, F46_1 re rk 5000 a b c d tw th cs kn lv co bx xy pc od ly b1 b2 b3 b4 b5 b6 b7 b8 st dd sf k = k r) := by
  obtain ⟨u, u0, u1, u2⟩ := numb a b c d tw th cs kn lv co bx xy pc od ly b1 b2 b3 b4 b5 b6 b7 b8 st dd sf hc hp hs h5 h6
  unfold F37_0 G37_0 F46_1 G46_1
  simp only [ht.h49, ht.h45, F62_v, F89_a, u1, u2, ht.h88, ht.h95, e_bn]
  cases he : re.cm .neq e 0 with
  | true =>
    refine ⟨e, fun h => ?_, fun k => rfl, fun k => rfl⟩
    have := of_decide_eq_true he
    exact absurd h this
  | false =>
    have he0 : e = 0 := by
      have := of_decide_eq_false he
      simp only [ne_eq, Classical.not_not] at this
      exact this
    cases v77 kn 1 3 with
    | false => exact ⟨3, (fun h => by cases h), fun k => rfl, fun k => rfl⟩
    | true => cases v77 co 0 2 with
      | false => exact ⟨3, (fun h => by cases h), fun k => rfl, fun k => rfl⟩
      | true => cases v77 od 1 5 with
        | false => exact ⟨3, (fun h => by cases h), fun k => rfl, fun k => rfl⟩
        | true => cases u with
          | false => exact ⟨13, (fun h => by cases h), fun k => rfl, fun k => rfl⟩
          | true =>
            have hf := u0 rfl
            have hlen := (ht.hf he0).2.2.2.2.2
            obtain ⟨z, z1, z2⟩ := tiles_loop a b c d tw th cs kn lv co bx xy pc od ly b1 b2 b3 b4 b5 b6 b7 b8 st dd sf hc hp hf (by omega) ht.hl (hll he0) l.length 0 5000 5000 (by omega) (by omega) (by have := hll he0; omega) (by have := hll he0; omega)
            have z1' : ∀ (k0 : Int → Option Unit) (k1 : Option Unit), L37_13_0 re rk 5000 5000 k0 k1 a b c d tw th cs kn lv co bx xy pc od ly b1 b2 b3 b4 b5 b6 b7 b8 st dd sf l 0 = _ := z1
            have z2' : ∀ (k0 : Int → Option Unit) (k1 : Option Unit), L46_9t1_0 re rk 5000 5000 k0 k1 a b c d tw th cs kn lv co bx xy pc od ly b1 b2 b3 b4 b5 b6 b7 b8 st dd sf l (re.on (re.len l)) 0 = _ := z2
            simp only [z1', z2', Bool.and_self, Bool.not_true, Bool.true_and]
            have hneg : re.cm .eql co 0 = !(re.cm .neq co 0) := by
              rw [e_eql, e_neq]; by_cases e : co = 0 <;> simp [e]
            have hneg2 : re.cm .geq (re.on (re.len cs)) 3 = !(re.cm .lss (re.on (re.len cs)) 3) := by
              rw [e_geq, e_lss]; by_cases e : re.on (re.len cs) < 3 <;> simp [e] <;> omega
            have fin : vcol co cs = true → ∃ r : Int, (r = 0 → e = 0 ∧ PF lv bx xy pc ly) ∧ (∀ k : Int → Option Unit, (match (generalizing := false) z with | true => k 5 | false => k 0) = k r) ∧ (∀ k : Int → Option Unit, (match (generalizing := false) z with | true => k 5 | false => k 0) = k r) := fun _ => by
              cases z with
              | true => exact ⟨5, (fun h => by cases h), fun k => rfl, fun k => rfl⟩
              | false => exact ⟨0, fun _ => ⟨he0, hf⟩, fun k => rfl, fun k => rfl⟩
            cases c1 : re.cm .neq co 0 with
            | false =>
              have hv : vcol co cs = true := by unfold vcol; rw [hneg, c1]; rfl
              simp only [hv, Bool.not_true]
              exact fin hv
            | true => cases c2 : re.cm .lss (re.on (re.len cs)) 3 with
              | true =>
                have hv : vcol co cs = false := by unfold vcol; rw [hneg, hneg2, c1, c2]; rfl
                simp only [hv, Bool.not_false]
                exact ⟨13, (fun h => by cases h), fun k => rfl, fun k => rfl⟩
              | false =>
                have h3 : 3 ≤ cs.length := by
                  have := of_decide_eq_false c2
                  simp only [e_on, e_len] at this
                  omega
                have i0 : re.ix 0 (re.len cs) = some 0 := e_ix (n := cs.length) (j := 0) (by omega)
                have i1 : re.ix 1 (re.len cs) = some 1 := e_ix (n := cs.length) (j := 1) (by omega)
                have i2 : re.ix 2 (re.len cs) = some 2 := e_ix (n := cs.length) (j := 2) (by omega)
                have o0 : rk.okE shC4 true cs 0 = true := okE_ag rfl hc (by omega)
                have o1 : rk.okE shC4 true cs 1 = true := okE_ag rfl hc (by omega)
                have o2 : rk.okE shC4 true cs 2 = true := okE_ag rfl hc (by omega)
                have s1 : re.ba (re.cm .eql (rk.ci cs 0 0) (rk.ci cs 1 0)) (re.ba (re.be (rk.cb cs 0 1) (rk.cb cs 1 1)) (re.ba (re.cm .eql (rk.ci cs 0 2) (rk.ci cs 1 2)) (re.ba (re.cm .eql (rk.ci cs 0 3) (rk.ci cs 1 3)) true))) = sameC cs 0 1 := rfl
                have s2 : re.ba (re.cm .eql (rk.ci cs 0 0) (rk.ci cs 2 0)) (re.ba (re.be (rk.cb cs 0 1) (rk.cb cs 2 1)) (re.ba (re.cm .eql (rk.ci cs 0 2) (rk.ci cs 2 2)) (re.ba (re.cm .eql (rk.ci cs 0 3) (rk.ci cs 2 3)) true))) = sameC cs 0 2 := rfl
                have hv : vcol co cs = (sameC cs 0 1 && sameC cs 0 2) := by unfold vcol; rw [hneg, hneg2, c1, c2]; rfl
                simp only [i0, i1, i2, o0, o1, o2, s1, s2, hv]
                cases e1 : sameC cs 0 1 with
                | false =>
                  simp only [Bool.not_false, Bool.false_and]
                  exact ⟨13, (fun h => by cases h), fun k => rfl, fun k => rfl⟩
                | true => cases e2 : sameC cs 0 2 with
                  | false =>
                    simp only [Bool.not_false, Bool.not_true, Bool.and_false]
                    exact ⟨13, (fun h => by cases h), fun k => rfl, fun k => rfl⟩
                  | true =>
                    simp only [Bool.not_true, Bool.and_self]
                    exact fin (by rw [hv, e1, e2]; rfl)
theorem packets (a b c d tw th : Int) (cs : List R) (kn lv co bx xy : Int) (pc : List R) (od ly : Int) (b1 b2 b3 b4 b5 b6 b7 b8 : Bool) (st : List R) (dd sf : Int) (hc : ∀ x ∈ cs, shOK (.ag shC4) x) (hp : ∀ x ∈ pc, shOK (.ag shP2) x) (hf : PF lv bx xy pc ly) {l : List R} (ht : HT a b c d tw th cs 0 l) (h57 : ∀ k : Int → Option Unit, F37_0 re rk 5000 a b c d tw th cs kn lv co bx xy pc od ly b1 b2 b3 b4 b5 b6 b7 b8 st dd sf k = k 0) (j : Nat) (hj : j < l.length) :
    ∃ g : Int, ∀ k : Int → Option Unit, F38_0 re rk 5000 a b c d tw th cs kn lv co bx xy pc od ly b1 b2 b3 b4 b5 b6 b7 b8 st dd sf (j : Int) k = k g := by
  have hlen := (ht.hf rfl).2.2.2.2.2
  have ht56 := tiles a b c d tw th ht.h49 ht.h88
  have hix : re.ix (j : Int) (re.len l) = some j := e_ix hj
  have hok : rk.okC [.i .i64, .i .i64, .i .i64, .i .i64] l j 0 = true := isR_ok ht.hl hj
  obtain ⟨P, M, f1, f2, f3⟩ := fits a b c d tw th cs kn lv co bx xy pc od ly b1 b2 b3 b4 b5 b6 b7 b8 st dd sf hc hp hf (by omega) (rk.ci l j 0) (rk.ci l j 1) (rk.ci l j 2) (rk.ci l j 3)
  have t1 : re.cm .geq (j : Int) 0 = true := by rw [e_geq]; exact decide_eq_true (by omega)
  have t2 : re.cm .lss (j : Int) (re.on (re.len l)) = true := decide_eq_true (by simp only [e_on, e_len]; omega)
  have t3 : re.cm .eql 0 0 = true := rfl
  have t4 : re.cm .geq 0 0 = true := rfl
  unfold F38_0 G38_0 F66_0 G66_0
  simp only [h57, ht56, hix, hok, f1, t1, t2, t3, t4, e_bn]
  cases re.cm .lss 0 (re.on (re.len cs)) with
  | false => exact ⟨0, fun k => rfl⟩
  | true => exact ⟨P, fun k => rfl⟩
theorem few_loop (a b c d tw th : Int) (cs : List R) (kn lv co bx xy : Int) (pc : List R) (od ly : Int) (b1 b2 b3 b4 b5 b6 b7 b8 : Bool) (st : List R) (dd sf : Int) (hc : ∀ x ∈ cs, shOK (.ag shC4) x) (hp : ∀ x ∈ pc, shOK (.ag shP2) x) (hf : PF lv bx xy pc ly) {l : List R} (ht : HT a b c d tw th cs 0 l) (h57 : ∀ k : Int → Option Unit, F37_0 re rk 5000 a b c d tw th cs kn lv co bx xy pc od ly b1 b2 b3 b4 b5 b6 b7 b8 st dd sf k = k 0) (hll : l.length < 5000) : ∀ (cnt j n : Nat), l.length - j = cnt → j ≤ l.length → cnt < n →
    ∃ z : Bool, ∀ (k0 : Bool → Option Unit) (k1 : Option Unit), L18_10_0 re rk 5000 n k0 k1 a b c d tw th cs kn lv co bx xy pc od ly b1 b2 b3 b4 b5 b6 b7 b8 st dd sf (re.on (re.len l)) (j : Int) = (match z with | true => k0 false | false => k1) := by
  intro cnt
  induction cnt with
  | zero =>
    intro j n h1 h2 hn
    obtain ⟨n, rfl⟩ : ∃ n', n = n' + 1 := ⟨n - 1, by omega⟩
    have hlt : re.cm .lss (j : Int) (re.on (re.len l)) = false := decide_eq_false (by simp only [e_on, e_len]; omega)
    exact ⟨false, fun k0 k1 => by simp only [L18_10_0, GL18_10_0, hlt]⟩
  | succ cnt ih =>
    intro j n h1 h2 hn
    obtain ⟨n, rfl⟩ : ∃ n', n = n' + 1 := ⟨n - 1, by omega⟩
    have hj : j < l.length := by omega
    have hlt : re.cm .lss (j : Int) (re.on (re.len l)) = true := decide_eq_true (by simp only [e_on, e_len]; omega)
    have hinc : re.ar .add .i64 (j : Int) 1 = ((j + 1 : Nat) : Int) := e_inc (by omega)
    obtain ⟨g, hg⟩ := packets a b c d tw th cs kn lv co bx xy pc od ly b1 b2 b3 b4 b5 b6 b7 b8 st dd sf hc hp hf ht h57 j hj
    obtain ⟨z, z1⟩ := ih (j + 1) n (by omega) (by omega) (by omega)
    cases c0 : re.cm .gtr g 400 with
    | true => exact ⟨true, fun k0 k1 => by simp only [L18_10_0, GL18_10_0, hlt, hg, c0]⟩
    | false => exact ⟨z, fun k0 k1 => by simp only [L18_10_0, GL18_10_0, hlt, hg, c0, hinc, z1]⟩
theorem htiles (a b c d tw th : Int) {cs : List R} (hc : ∀ x ∈ cs, shOK (.ag shC4) x) : ∃ (e : Int) (l : List R), HT a b c d tw th cs e l := by
  obtain ⟨e, h1, h2, h3⟩ := hdr a b c d tw th hc
  obtain ⟨l, h4, h5, h6⟩ := cells a b c d tw th
  exact ⟨e, l, ⟨h1, h2, h3, h5, h6, h4⟩⟩
theorem few31 (a b c d tw th : Int) (cs : List R) (kn lv co bx xy : Int) (pc : List R) (od ly : Int) (b1 b2 b3 b4 b5 b6 b7 b8 : Bool) (st : List R) (dd sf : Int) (hc : ∀ x ∈ cs, shOK (.ag shC4) x) (hp : ∀ x ∈ pc, shOK (.ag shP2) x) (hs : ∀ x ∈ st, shOK (.i .i64) x) :
    ∃ v : Bool, (v = true → ∃ (e : Int) (l : List R), HT a b c d tw th cs e l ∧ (e = 0 → l.length < 5000) ∧ pc.length < 5000 ∧ st.length < 5000 ∧ cs.length < 5000) ∧ ∀ k : Bool → Option Unit, F18_0 re rk 5000 a b c d tw th cs kn lv co bx xy pc od ly b1 b2 b3 b4 b5 b6 b7 b8 st dd sf k = k v := by
  obtain ⟨e, l, ht⟩ := htiles a b c d tw th hc
  unfold F18_0 G18_0
  cases t1 : re.cm .gtr (re.on (re.len cs)) 10 with
  | true => exact ⟨false, (fun h => by cases h), fun k => by simp only [e_bn, t1]⟩
  | false => cases t2 : re.cm .gtr (re.on (re.len pc)) 10 with
    | true => exact ⟨false, (fun h => by cases h), fun k => by simp only [e_bn, t1, t2]⟩
    | false => cases t3 : re.cm .gtr (re.on (re.len st)) 40 with
      | true => exact ⟨false, (fun h => by cases h), fun k => by simp only [e_bn, t1, t2, t3]⟩
      | false =>
        have l1 : cs.length < 5000 := by
          have := of_decide_eq_false t1
          simp only [e_on, e_len] at this
          omega
        have l2 : pc.length < 5000 := by
          have := of_decide_eq_false t2
          simp only [e_on, e_len] at this
          omega
        have l3 : st.length < 5000 := by
          have := of_decide_eq_false t3
          simp only [e_on, e_len] at this
          omega
        cases he : re.cm .neq e 0 with
        | true => exact ⟨true, fun _ => ⟨e, l, ht, fun h => absurd h (of_decide_eq_true he), l2, l3, l1⟩, fun k => by simp only [e_bn, t1, t2, t3, ht.h49, he]⟩
        | false =>
          obtain rfl : e = 0 := by
            have := of_decide_eq_false he
            simp only [ne_eq, Classical.not_not] at this
            exact this
          have h49 := ht.h49
          have h56 := tiles a b c d tw th ht.h49 ht.h88
          cases t4 : re.cm .gtr (re.ar .sub .i64 c a) 40 with
          | true => exact ⟨false, (fun h => by cases h), fun k => by simp only [e_bn, t1, t2, t3, h49, he, t4]⟩
          | false => cases t5 : re.cm .gtr (re.ar .sub .i64 d b) 40 with
            | true => exact ⟨false, (fun h => by cases h), fun k => by simp only [e_bn, t1, t2, t3, h49, he, t4, t5]⟩
            | false => cases t6 : re.cm .gtr (re.on (re.len l)) 16 with
              | true => exact ⟨false, (fun h => by cases h), fun k => by simp only [e_bn, t1, t2, t3, h49, he, t4, t5, h56, t6]⟩
              | false =>
                have l6 : l.length < 5000 := by
                  have := of_decide_eq_false t6
                  simp only [e_on, e_len] at this
                  omega
                obtain ⟨r, r0, r1, r2⟩ := check a b c d tw th cs kn lv co bx xy pc od ly b1 b2 b3 b4 b5 b6 b7 b8 st dd sf hc hp hs l2 l3 ht (fun _ => l6)
                cases hr : re.cm .neq r 0 with
                | true => exact ⟨true, fun _ => ⟨0, l, ht, fun _ => l6, l2, l3, l1⟩, fun k => by simp only [e_bn, t1, t2, t3, h49, he, t4, t5, h56, t6, r1, hr]⟩
                | false =>
                  obtain rfl : r = 0 := by
                    have := of_decide_eq_false hr
                    simp only [ne_eq, Classical.not_not] at this
                    exact this
                  obtain ⟨z, z1⟩ := few_loop a b c d tw th cs kn lv co bx xy pc od ly b1 b2 b3 b4 b5 b6 b7 b8 st dd sf hc hp (r0 rfl).2 ht r1 l6 l.length 0 5000 (by omega) (by omega) (by omega)
                  have z1' : ∀ (k0 : Bool → Option Unit) (k1 : Option Unit), L18_10_0 re rk 5000 5000 k0 k1 a b c d tw th cs kn lv co bx xy pc od ly b1 b2 b3 b4 b5 b6 b7 b8 st dd sf (re.on (re.len l)) 0 = _ := z1
                  cases z with
                  | true => exact ⟨false, (fun h => by cases h), fun k => by simp only [e_bn, t1, t2, t3, h49, he, t4, t5, h56, t6, r1, hr, z1']⟩
                  | false => exact ⟨true, fun _ => ⟨0, l, ht, fun _ => l6, l2, l3, l1⟩, fun k => by simp only [e_bn, t1, t2, t3, h49, he, t4, t5, h56, t6, r1, hr, z1']⟩
end Go.Proofs.YthlnfebecphcmaaGreat
