/-
  Choices: targets, and all of them.
-/
import Derived.Test.Ytcapaihnachkhaa7g
set_option linter.unusedVariables false
set_option linter.unusedSimpArgs false
set_option maxRecDepth 100000
namespace Go.Proofs.Ytcapaihnachkhaa
open Go.Os
open Go.ChangeShapes Go.WideShapes Go.ChangeAt Go.RowKit
def tgB (ts : IL) (j : Nat) : Bool := decide (-1 ≤ gI ts j) && match decide (gI ts j = -1) with
  | true => decide (j + 1 = ts.length)
  | false => decide (j = 0) || decide (gI ts (j - 1) ≤ gI ts j)
theorem L53_7_v (x0 : List R) (ts : IL) (k0 : List R → List R → List R → Int → Option Unit) (k1 : List R → List R → Option Unit) (hl : ts.length ≤ 40) : ∀ (cnt j n : Nat), j + cnt = ts.length → cnt < n →
    L53_7_0 re rk 5000 n k0 k1 x0 (ints ts) (ints ts) ((ts.length : Nat) : Int) (j : Int) = match allB (tgB ts) cnt j with | true => k1 x0 (ints ts) | false => k0 x0 (ints ts) [] 2 := by
  intro cnt
  induction cnt with
  | zero =>
    intro j n h hn
    obtain ⟨n, rfl⟩ : ∃ n', n = n' + 1 := ⟨n - 1, by omega⟩
    have hlt : decide ((j : Int) < ((ts.length : Nat) : Int)) = false := decide_eq_false (by omega)
    simp only [L53_7_0, GL53_7_0, e_lss, hlt, allB]
  | succ cnt ih =>
    intro j n h hn
    obtain ⟨n, rfl⟩ : ∃ n', n = n' + 1 := ⟨n - 1, by omega⟩
    have hlt : decide ((j : Int) < ((ts.length : Nat) : Int)) = true := decide_eq_true (by omega)
    have h1 : j < ts.length := by omega
    simp only [L53_7_0, GL53_7_0, e_lss, hlt, len_ints, e_ix h1, okE_ints h1, ci_ints, e_eql, e_neq, e_gtr, e_bn, e_on, e_sub1 (show 0 < ts.length by omega) (by omega), e_inc (show j < 4611686018427387904 by omega), ih (j + 1) n (by omega) (by omega), allB, tgB]
    by_cases a : gI ts j < -1
    · simp only [decide_eq_true a, decide_eq_false (show ¬ -1 ≤ gI ts j by omega), Bool.false_and]
    · simp only [decide_eq_false a, decide_eq_true (show -1 ≤ gI ts j by omega), Bool.true_and]
      by_cases b : gI ts j = -1
      · simp only [b, decide_true, ne_eq, not_true_eq_false, decide_false]
        by_cases c : j + 1 = ts.length
        · simp only [decide_eq_true c, decide_eq_true (show (j : Int) = ((ts.length - 1 : Nat) : Int) by omega), Bool.not_true]
        · simp only [decide_eq_false c, decide_eq_false (show ¬ (j : Int) = ((ts.length - 1 : Nat) : Int) by omega), Bool.not_false]
      · simp only [decide_eq_false b, decide_eq_true (show gI ts j ≠ -1 from b)]
        by_cases hj : j = 0
        · subst hj
          have e2 : decide ((0 : Int) < ((0 : Nat) : Int)) = false := rfl
          simp only [e2, decide_true, Bool.true_or]
        · have e2 : decide ((0 : Int) < (j : Int)) = true := decide_eq_true (by omega)
          have h3 : j - 1 < ts.length := by omega
          simp only [e2, e_sub1 (show 0 < j by omega) (by omega), e_ix h3, okE_ints h3, decide_eq_false hj, Bool.false_or, ci_ints]
          by_cases c : gI ts j < gI ts (j - 1)
          · simp only [decide_eq_true c, decide_eq_false (show ¬ gI ts (j - 1) ≤ gI ts j by omega)]
          · simp only [decide_eq_false c, decide_eq_true (show gI ts (j - 1) ≤ gI ts j by omega)]
theorem L54_7_v (x0 : List R) (ts : IL) (k0 : List R → List R → List R → Int → Option Unit) (k1 : List R → List R → Option Unit) (hl : ts.length ≤ 40) : ∀ (cnt j n : Nat), j + cnt = ts.length → cnt < n →
    L54_7_0 re rk 5000 n k0 k1 x0 (ints ts) (ints ts) ((ts.length : Nat) : Int) (j : Int) = match allB (tgB ts) cnt j with | true => k1 x0 (ints ts) | false => k0 x0 (ints ts) [] 2 := by
  intro cnt
  induction cnt with
  | zero =>
    intro j n h hn
    obtain ⟨n, rfl⟩ : ∃ n', n = n' + 1 := ⟨n - 1, by omega⟩
    have hlt : decide ((j : Int) < ((ts.length : Nat) : Int)) = false := decide_eq_false (by omega)
    simp only [L54_7_0, GL54_7_0, e_lss, hlt, allB]
  | succ cnt ih =>
    intro j n h hn
    obtain ⟨n, rfl⟩ : ∃ n', n = n' + 1 := ⟨n - 1, by omega⟩
    have hlt : decide ((j : Int) < ((ts.length : Nat) : Int)) = true := decide_eq_true (by omega)
    have h1 : j < ts.length := by omega
    simp only [L54_7_0, GL54_7_0, e_lss, hlt, len_ints, e_ix h1, okE_ints h1, ci_ints, e_eql, e_geq, e_gtr, e_bn, e_on, e_sub1 (show 0 < ts.length by omega) (by omega), e_inc (show j < 4611686018427387904 by omega), ih (j + 1) n (by omega) (by omega), allB, tgB]
    by_cases a : gI ts j < -1
    · simp only [decide_eq_true a, decide_eq_false (show ¬ -1 ≤ gI ts j by omega), Bool.false_and]
    · simp only [decide_eq_false a, decide_eq_true (show -1 ≤ gI ts j by omega), Bool.true_and]
      by_cases b : gI ts j = -1
      · simp only [b, decide_true, show decide ((0 : Int) ≤ -1) = false from rfl]
        by_cases c : j + 1 = ts.length
        · simp only [decide_eq_true c, decide_eq_false (show ¬ (j : Int) < ((ts.length - 1 : Nat) : Int) by omega)]
        · simp only [decide_eq_false c, decide_eq_true (show (j : Int) < ((ts.length - 1 : Nat) : Int) by omega)]
      · simp only [decide_eq_false b, decide_eq_true (show 0 ≤ gI ts j by omega)]
        by_cases hj : j = 0
        · subst hj
          have e2 : decide ((0 : Int) < ((0 : Nat) : Int)) = false := rfl
          simp only [e2, decide_true, Bool.true_or]
        · have e2 : decide ((0 : Int) < (j : Int)) = true := decide_eq_true (by omega)
          have h3 : j - 1 < ts.length := by omega
          simp only [e2, e_sub1 (show 0 < j by omega) (by omega), e_ix h3, okE_ints h3, decide_eq_false hj, Bool.false_or, ci_ints]
          by_cases c : gI ts j < gI ts (j - 1)
          · simp only [decide_eq_true c, decide_eq_false (show ¬ gI ts (j - 1) ≤ gI ts j by omega)]
          · simp only [decide_eq_false c, decide_eq_true (show gI ts (j - 1) ≤ gI ts j by omega)]
def chl (l : List IL) : List R := l.map fun m => R.ro 1 (ints m)
theorem len_chl (l : List IL) : re.len (chl l) = l.length := List.length_map _
theorem chl_app (l : List IL) (m : IL) : re.app (chl l) [R.ro 1 (ints m)] = chl (l ++ [m]) := by
  show chl l ++ [R.ro 1 (ints m)] = _
  unfold chl
  rw [List.map_append]; rfl
theorem imid_in (pre : IL) (x : Int) (s : IL) : pre.length < (pre ++ x :: s).length := by
  simp only [List.length_append, List.length_cons]; omega
theorem imid (pre : IL) (x : Int) (s : IL) : gI (pre ++ x :: s) pre.length = x := by
  rw [gI_in (imid_in pre x s)]; simp
section
variable {cs : CL} (V : ∀ i, i < cs.length → VC (gC cs i).1 (gC cs i).2) (hc : cs.length ≤ 40) (hm : ∀ i, i < cs.length → (gC cs i).1.length ≤ 40)
include V hc hm
theorem L53_16_v (k0 : List R → List R → Option Unit) : ∀ (s pre : IL) (n : Nat) (out : List IL), s.length < n → pre.length + s.length ≤ 40 → out.length + s.length ≤ 40 → (∀ t ∈ s, -1 ≤ t ∧ t ≤ 9223372036854775807) →
    L53_16_0 re rk 5000 n k0 (curs cs) (sp (srt (allS cs cs.length 0))) (chl out) (ints (pre ++ s)) (((pre ++ s).length : Nat) : Int) (pre.length : Int) = k0 (curs cs) (chl (out ++ s.map (chs cs))) := by
  intro s
  induction s with
  | nil =>
    intro pre n out hn hp ho ht
    obtain ⟨n, rfl⟩ : ∃ n', n = n' + 1 := ⟨n - 1, by omega⟩
    have hlt : decide ((pre.length : Int) < ((pre.length : Nat) : Int)) = false := decide_eq_false (by omega)
    simp only [List.append_nil, L53_16_0, GL53_16_0, e_lss, hlt, List.map_nil]
  | cons x s ih =>
    intro pre n out hn hp ho ht
    simp only [List.length_cons] at hn hp ho
    obtain ⟨n, rfl⟩ : ∃ n', n = n' + 1 := ⟨n - 1, by omega⟩
    have hin := imid_in pre x s
    have hlt : decide ((pre.length : Int) < (((pre ++ x :: s).length : Nat) : Int)) = true := decide_eq_true (by omega)
    obtain ⟨t1, t2⟩ := ht x (List.mem_cons_self ..)
    have hs : re.small (out.length + 1) 24 = true := small_ok (by omega) (by omega)
    have := ih (pre ++ [x]) n (out ++ [chs cs x]) (by omega) (by simp only [List.length_append, List.length_cons, List.length_nil]; omega) (by simp only [List.length_append, List.length_cons, List.length_nil]; omega) (fun t h => ht t (List.mem_cons_of_mem _ h))
    simp only [List.append_assoc, List.singleton_append, List.length_append, List.length_cons, List.length_nil, Nat.zero_add] at this
    simp only [L53_16_0, GL53_16_0, e_lss, hlt, len_ints, e_ix hin, okE_ints hin, ci_ints, imid, e_eql, F84_v hc, e_inc (show pre.length < 4611686018427387904 by omega)]
    by_cases h : x = -1
    · subst h
      simp only [decide_true, chl_app, len_chl, List.length_append, List.length_cons, List.length_nil, Nat.zero_add, hs, List.map_cons]
      exact this
    · simp only [decide_eq_false h, F85_v V hc hm x (by omega) t2, chl_app, len_chl, List.length_append, List.length_cons, List.length_nil, Nat.zero_add, hs, List.map_cons]
      exact this
theorem L53_16t1_v (k0 : List R → List R → Option Unit) : ∀ (s pre : IL) (n : Nat) (out : List IL), s.length < n → pre.length + s.length ≤ 40 → out.length + s.length ≤ 40 → (∀ t ∈ s, -1 ≤ t ∧ t ≤ 9223372036854775807) →
    L53_16t1_0 re rk 5000 n k0 (curs cs) (sp (srt (allS cs cs.length 0))) (chl out) (ints (pre ++ s)) (((pre ++ s).length : Nat) : Int) (pre.length : Int) = k0 (curs cs) (chl (out ++ s.map (chs cs)))
    ∧ L53_16t1_1 re rk 5000 n k0 (curs cs) (sp (srt (allS cs cs.length 0))) (chl out) (ints (pre ++ s)) (((pre ++ s).length : Nat) : Int) (pre.length : Int) = k0 (curs cs) (chl (out ++ s.map (chs cs))) := by
  intro s
  induction s with
  | nil =>
    intro pre n out hn hp ho ht
    obtain ⟨n, rfl⟩ : ∃ n', n = n' + 1 := ⟨n - 1, by omega⟩
    have hlt : decide ((pre.length : Int) < ((pre.length : Nat) : Int)) = false := decide_eq_false (by omega)
    simp only [List.append_nil, L53_16t1_0, GL53_16t1_0, L53_16t1_1, GL53_16t1_1, e_lss, hlt, List.map_nil, and_self]
  | cons x s ih =>
    intro pre n out hn hp ho ht
    simp only [List.length_cons] at hn hp ho
    obtain ⟨n, rfl⟩ : ∃ n', n = n' + 1 := ⟨n - 1, by omega⟩
    have hin := imid_in pre x s
    have hlt : decide ((pre.length : Int) < (((pre ++ x :: s).length : Nat) : Int)) = true := decide_eq_true (by omega)
    obtain ⟨t1, t2⟩ := ht x (List.mem_cons_self ..)
    have hs : re.small (out.length + 1) 24 = true := small_ok (by omega) (by omega)
    have := ih (pre ++ [x]) n (out ++ [chs cs x]) (by omega) (by simp only [List.length_append, List.length_cons, List.length_nil]; omega) (by simp only [List.length_append, List.length_cons, List.length_nil]; omega) (fun t h => ht t (List.mem_cons_of_mem _ h))
    simp only [List.append_assoc, List.singleton_append, List.length_append, List.length_cons, List.length_nil, Nat.zero_add] at this
    simp only [L53_16t1_0, GL53_16t1_0, L53_16t1_1, GL53_16t1_1, e_lss, hlt, len_ints, e_ix hin, okE_ints hin, ci_ints, imid, e_eql, F84_v hc, e_inc (show pre.length < 4611686018427387904 by omega)]
    by_cases h : x = -1
    · subst h
      simp only [decide_true, chl_app, len_chl, List.length_append, List.length_cons, List.length_nil, Nat.zero_add, hs, List.map_cons]
      exact this
    · simp only [decide_eq_false h, F85_v V hc hm x (by omega) t2, chl_app, len_chl, List.length_append, List.length_cons, List.length_nil, Nat.zero_add, hs, List.map_cons]
      exact ⟨this.2, this.2⟩
theorem L54_14_v (k0 : List R → List R → Option Unit) : ∀ (s pre : IL) (n : Nat) (out : List IL), s.length < n → pre.length + s.length ≤ 40 → out.length + s.length ≤ 40 → (∀ t ∈ s, -1 ≤ t ∧ t ≤ 9223372036854775807) →
    L54_14_0 re rk 5000 n k0 (curs cs) (chl out) (ints (pre ++ s)) (((pre ++ s).length : Nat) : Int) (pre.length : Int) = k0 (curs cs) (chl (out ++ s.map (chs cs))) := by
  intro s
  induction s with
  | nil =>
    intro pre n out hn hp ho ht
    obtain ⟨n, rfl⟩ : ∃ n', n = n' + 1 := ⟨n - 1, by omega⟩
    have hlt : decide ((pre.length : Int) < ((pre.length : Nat) : Int)) = false := decide_eq_false (by omega)
    simp only [List.append_nil, L54_14_0, GL54_14_0, e_lss, hlt, List.map_nil]
  | cons x s ih =>
    intro pre n out hn hp ho ht
    simp only [List.length_cons] at hn hp ho
    obtain ⟨n, rfl⟩ : ∃ n', n = n' + 1 := ⟨n - 1, by omega⟩
    have hin := imid_in pre x s
    have hlt : decide ((pre.length : Int) < (((pre ++ x :: s).length : Nat) : Int)) = true := decide_eq_true (by omega)
    obtain ⟨t1, t2⟩ := ht x (List.mem_cons_self ..)
    have hs : re.small (out.length + 1) 24 = true := small_ok (by omega) (by omega)
    have := ih (pre ++ [x]) n (out ++ [chs cs x]) (by omega) (by simp only [List.length_append, List.length_cons, List.length_nil]; omega) (by simp only [List.length_append, List.length_cons, List.length_nil]; omega) (fun t h => ht t (List.mem_cons_of_mem _ h))
    simp only [List.append_assoc, List.singleton_append, List.length_append, List.length_cons, List.length_nil, Nat.zero_add] at this
    simp only [L54_14_0, GL54_14_0, e_lss, hlt, len_ints, e_ix hin, okE_ints hin, ci_ints, imid, e_inc (show pre.length < 4611686018427387904 by omega), F86_v V hc hm x t1 t2, chl_app, len_chl]
    simp only [List.length_append, List.length_cons, List.length_nil, Nat.zero_add, hs, List.map_cons]
    exact this
end
theorem tgB_all {ts : IL} (h : allB (tgB ts) ts.length 0 = true) (hi : ∀ x ∈ ts, -9223372036854775808 ≤ x ∧ x ≤ 9223372036854775807) : ∀ t ∈ ts, -1 ≤ t ∧ t ≤ 9223372036854775807 := by
  intro t ht
  refine ⟨?_, (hi t ht).2⟩
  obtain ⟨i, h1, h2⟩ := List.mem_iff_getElem.1 ht
  have := allB_iff.1 h i (by omega) (by omega)
  unfold tgB at this
  simp only [Bool.and_eq_true, decide_eq_true_eq] at this
  rw [gI_in h1, h2] at this
  exact this.1
noncomputable def chC (cs : CL) (ts : IL) : List IL := match decide (16 < ts.length) with
  | true => []
  | false => match decide (vcs cs = 0) with
    | false => []
    | true => match allB (tgB ts) ts.length 0 with
      | false => []
      | true => ts.map (chs cs)
noncomputable def erC (cs : CL) (ts : IL) : Int := match decide (16 < ts.length) with
  | true => 5
  | false => match decide (vcs cs = 0) with
    | false => vcs cs
    | true => match allB (tgB ts) ts.length 0 with
      | false => 2
      | true => 0
section
variable {cs : CL} {ts : IL} (hc : cs.length ≤ 40) (hm : ∀ i, i < cs.length → (gC cs i).1.length ≤ 40) (ht : ts.length ≤ 20) (hi : ∀ x ∈ ts, -9223372036854775808 ≤ x ∧ x ≤ 9223372036854775807)
include hc hm ht hi
theorem F53_v (k : List R → Int → Option Unit) : F53_0 re rk 5000 (curs cs) (ints ts) k = k (chl (chC cs ts)) (erC cs ts) := by
  unfold F53_0 G53_0 chC erC
  simp only [len_curs, len_ints, e_on, e_gtr, decide_eq_false (show ¬ (65536 : Int) < ((cs.length : Nat) : Int) by omega)]
  by_cases h : 16 < ts.length
  · simp only [decide_eq_true h, decide_eq_true (show (16 : Int) < ((ts.length : Nat) : Int) by omega)]
    rfl
  · simp only [decide_eq_false h, decide_eq_false (show ¬ (16 : Int) < ((ts.length : Nat) : Int) by omega), F82_v cs hc, e_neq]
    by_cases hv : vcs cs = 0
    · have V := vcs_all hv
      simp only [decide_eq_true hv, decide_eq_false (show ¬ vcs cs ≠ 0 from fun h => h hv)]
      refine (L53_7_v (curs cs) ts _ _ (by omega) ts.length 0 5000 (by omega) (by omega)).trans ?_
      cases hb : allB (tgB ts) ts.length 0 with
      | false => rfl
      | true =>
        have hr := tgB_all hb hi
        obtain ⟨b, hF⟩ := F83_v V hc hm
        simp only [hF, len_ints]
        cases b with
        | true => exact L53_16_v V hc hm (fun _ x => k x 0) ts [] 5000 [] (by omega) (by simp only [List.length_nil]; omega) (by simp only [List.length_nil]; omega) hr
        | false => exact (L53_16t1_v V hc hm (fun _ x => k x 0) ts [] 5000 [] (by omega) (by simp only [List.length_nil]; omega) (by simp only [List.length_nil]; omega) hr).1
    · simp only [decide_eq_false hv, decide_eq_true (show vcs cs ≠ 0 from hv)]
      rfl
theorem F54_v (k : List R → Int → Option Unit) : F54_0 re rk 5000 (curs cs) (ints ts) k = k (chl (chC cs ts)) (erC cs ts) := by
  unfold F54_0 G54_0 chC erC
  simp only [len_curs, len_ints, e_on, e_gtr]
  by_cases h : 16 < ts.length
  · simp only [decide_eq_true h, decide_eq_true (show (16 : Int) < ((ts.length : Nat) : Int) by omega)]
    rfl
  · simp only [decide_eq_false h, decide_eq_false (show ¬ (16 : Int) < ((ts.length : Nat) : Int) by omega), F55_v cs hc, e_neq]
    by_cases hv : vcs cs = 0
    · have V := vcs_all hv
      simp only [decide_eq_true hv, decide_eq_false (show ¬ vcs cs ≠ 0 from fun h => h hv)]
      refine (L54_7_v (curs cs) ts _ _ (by omega) ts.length 0 5000 (by omega) (by omega)).trans ?_
      cases hb : allB (tgB ts) ts.length 0 with
      | false => rfl
      | true =>
        have hr := tgB_all hb hi
        simp only [len_ints]
        exact L54_14_v V hc hm (fun _ x => k x 0) ts [] 5000 [] (by omega) (by simp only [List.length_nil]; omega) (by simp only [List.length_nil]; omega) hr
    · simp only [decide_eq_false hv, decide_eq_true (show vcs cs ≠ 0 from hv)]
      rfl
end
def fewC (cs : CL) (i : Nat) : Bool := !(decide (40 < (gC cs i).1.length)) && !(decide (40 < (gC cs i).2.length))
theorem L26_v (cs : CL) (k0 : Bool → Option Unit) (k1 : Option Unit) (hc : cs.length ≤ 40) : ∀ (cnt j n : Nat), j + cnt = cs.length → cnt < n →
    L26_4_0 re rk 5000 n k0 k1 (curs cs) ((cs.length : Nat) : Int) (j : Int) = match allB (fewC cs) cnt j with | true => k1 | false => k0 false := by
  intro cnt
  induction cnt with
  | zero =>
    intro j n h hn
    obtain ⟨n, rfl⟩ : ∃ n', n = n' + 1 := ⟨n - 1, by omega⟩
    have hlt : decide ((j : Int) < ((cs.length : Nat) : Int)) = false := decide_eq_false (by omega)
    simp only [L26_4_0, GL26_4_0, e_lss, hlt, allB]
  | succ cnt ih =>
    intro j n h hn
    obtain ⟨n, rfl⟩ : ∃ n', n = n' + 1 := ⟨n - 1, by omega⟩
    have hlt : decide ((j : Int) < ((cs.length : Nat) : Int)) = true := decide_eq_true (by omega)
    have h1 : j < cs.length := by omega
    simp only [L26_4_0, GL26_4_0, e_lss, hlt, len_curs, e_ix h1, okE_curs h1, cl_curs0, cl_curs1, len_ints, e_on, e_gtr, e_inc (show j < 4611686018427387904 by omega), ih (j + 1) n (by omega) (by omega), allB, fewC]
    by_cases a : 40 < (gC cs j).1.length
    · simp only [decide_eq_true a, decide_eq_true (show (40 : Int) < (((gC cs j).1.length : Nat) : Int) by omega), Bool.not_true, Bool.false_and]
    · simp only [decide_eq_false a, decide_eq_false (show ¬ (40 : Int) < (((gC cs j).1.length : Nat) : Int) by omega), Bool.not_false, Bool.true_and]
      by_cases b : 40 < (gC cs j).2.length
      · simp only [decide_eq_true b, decide_eq_true (show (40 : Int) < (((gC cs j).2.length : Nat) : Int) by omega), Bool.not_true]
      · simp only [decide_eq_false b, decide_eq_false (show ¬ (40 : Int) < (((gC cs j).2.length : Nat) : Int) by omega), Bool.not_false]
def few (cs : CL) (ts : IL) : Bool := match decide (40 < cs.length) with
  | true => false
  | false => match decide (20 < ts.length) with
    | true => false
    | false => allB (fewC cs) cs.length 0
theorem F26_v (cs : CL) (ts : IL) (k : Bool → Option Unit) : F26_0 re rk 5000 (curs cs) (ints ts) k = k (few cs ts) := by
  unfold F26_0 G26_0 few
  simp only [len_curs, len_ints, e_on, e_gtr]
  by_cases a : 40 < cs.length
  · simp only [decide_eq_true a, decide_eq_true (show (40 : Int) < ((cs.length : Nat) : Int) by omega)]
  · simp only [decide_eq_false a, decide_eq_false (show ¬ (40 : Int) < ((cs.length : Nat) : Int) by omega)]
    by_cases b : 20 < ts.length
    · simp only [decide_eq_true b, decide_eq_true (show (20 : Int) < ((ts.length : Nat) : Int) by omega)]
    · simp only [decide_eq_false b, decide_eq_false (show ¬ (20 : Int) < ((ts.length : Nat) : Int) by omega)]
      refine (L26_v cs (fun x => k x) (k true) (by omega) cs.length 0 5000 (by omega) (by omega)).trans ?_
      cases allB (fewC cs) cs.length 0 <;> rfl
theorem few_in {cs : CL} {ts : IL} (h : few cs ts = true) : cs.length ≤ 40 ∧ ts.length ≤ 20 ∧ ∀ i, i < cs.length → (gC cs i).1.length ≤ 40 := by
  unfold few at h
  by_cases a : 40 < cs.length
  · rw [decide_eq_true a] at h; cases h
  · rw [decide_eq_false a] at h
    by_cases b : 20 < ts.length
    · rw [decide_eq_true b] at h; cases h
    · rw [decide_eq_false b] at h
      refine ⟨by omega, by omega, fun i hi => ?_⟩
      have := allB_iff.1 h i (by omega) (by omega)
      unfold fewC at this
      simp only [Bool.and_eq_true, Bool.not_eq_true', decide_eq_false_iff_not] at this
      omega
def gL (l : List IL) (i : Nat) : IL := l.getD i []
theorem gL_in {m : List IL} {i : Nat} (h : i < m.length) : gL m i = m[i] := by
  show m.getD i _ = _
  rw [List.getD_eq_getElem?_getD, List.getElem?_eq_getElem h]; rfl
theorem okE_chl {m : List IL} {i : Nat} (h : i < m.length) : rk.okE [.sl 1 (.i .i64)] false (chl m) i = true := by
  show (match (chl m)[i]? with | some x => _ | none => false) = true
  unfold chl
  rw [List.getElem?_map, List.getElem?_eq_getElem h]
  rfl
theorem cl_chl {m : List IL} {i : Nat} (h : i < m.length) : rk.cl (chl m) i 0 = ints (gL m i) := by
  show rcl (cellOf (chl m) i 0) = _
  unfold cellOf chl
  rw [List.getElem?_map, List.getElem?_eq_getElem h, gL_in h]
  rfl
theorem L29_9_v {m : List IL} {i : Nat} (hi : i < m.length) (hl : (gL m i).length ≤ 4000) (k0 : List R → List R → Bool → Int → Int → Option Unit) (k1 : List R → List R → Int → Int → Option Unit) (x3 x4 : Int) : ∀ (cnt j n : Nat), j + cnt = (gL m i).length → cnt < n →
    L29_9_0 re rk 5000 n k0 k1 (chl m) (chl m) (i : Int) x3 x4 (((gL m i).length : Nat) : Int) (j : Int) = k1 (chl m) (chl m) x3 x4 := by
  intro cnt
  induction cnt with
  | zero =>
    intro j n h hn
    obtain ⟨n, rfl⟩ : ∃ n', n = n' + 1 := ⟨n - 1, by omega⟩
    have hlt : decide ((j : Int) < (((gL m i).length : Nat) : Int)) = false := decide_eq_false (by omega)
    simp only [L29_9_0, GL29_9_0, e_lss, hlt]
  | succ cnt ih =>
    intro j n h hn
    obtain ⟨n, rfl⟩ : ∃ n', n = n' + 1 := ⟨n - 1, by omega⟩
    have hlt : decide ((j : Int) < (((gL m i).length : Nat) : Int)) = true := decide_eq_true (by omega)
    have h1 : j < (gL m i).length := by omega
    have hne : ∀ x : Int, re.cm .neq x x = false := fun x => decide_eq_false (fun h => h rfl)
    simp only [L29_9_0, GL29_9_0, e_lss, hlt, len_chl, e_ix hi, okE_chl hi, cl_chl hi, len_ints, e_ix h1, okE_ints h1, hne, e_inc (show j < 4611686018427387904 by omega), ih (j + 1) n (by omega) (by omega)]
theorem L29_4_v {m : List IL} (hm : m.length ≤ 4000) (hl : ∀ i, i < m.length → (gL m i).length ≤ 4000) (k0 : List R → List R → Bool → Option Unit) (k1 : List R → List R → Option Unit) : ∀ (cnt j n : Nat), j + cnt = m.length → cnt < n →
    L29_4_0 re rk 5000 n k0 k1 (chl m) (chl m) ((m.length : Nat) : Int) (j : Int) = k1 (chl m) (chl m) := by
  intro cnt
  induction cnt with
  | zero =>
    intro j n h hn
    obtain ⟨n, rfl⟩ : ∃ n', n = n' + 1 := ⟨n - 1, by omega⟩
    have hlt : decide ((j : Int) < ((m.length : Nat) : Int)) = false := decide_eq_false (by omega)
    simp only [L29_4_0, GL29_4_0, e_lss, hlt]
  | succ cnt ih =>
    intro j n h hn
    obtain ⟨n, rfl⟩ : ∃ n', n = n' + 1 := ⟨n - 1, by omega⟩
    have hlt : decide ((j : Int) < ((m.length : Nat) : Int)) = true := decide_eq_true (by omega)
    have h1 : j < m.length := by omega
    have h2 := hl j h1
    have hne : ∀ x : Int, re.cm .neq x x = false := fun x => decide_eq_false (fun h => h rfl)
    have hin := fun k0 k1 x3 x4 => L29_9_v h1 h2 k0 k1 x3 x4 (gL m j).length 0 5000 (by omega) (by omega)
    have hin' : ∀ k0 k1 x3 x4, L29_9_0 re rk 5000 5000 k0 k1 (chl m) (chl m) (j : Int) x3 x4 (((gL m j).length : Nat) : Int) 0 = k1 (chl m) (chl m) x3 x4 := hin
    simp only [L29_4_0, GL29_4_0, e_lss, hlt, len_chl, e_ix h1, okE_chl h1, cl_chl h1, len_ints, e_on, hne, hin', e_inc (show j < 4611686018427387904 by omega), ih (j + 1) n (by omega) (by omega)]
theorem F29_v {m : List IL} (hm : m.length ≤ 4000) (hl : ∀ i, i < m.length → (gL m i).length ≤ 4000) (k : Bool → Option Unit) : F29_0 re rk 5000 (chl m) (chl m) k = k true := by
  have hne : ∀ x : Int, re.cm .neq x x = false := fun x => decide_eq_false (fun h => h rfl)
  unfold F29_0 G29_0
  simp only [len_chl, e_on, hne]
  exact L29_4_v hm hl (fun _ _ x => k x) (fun _ _ => k true) m.length 0 5000 (by omega) (by omega)
theorem fl_len (cs : CL) : ∀ (c j : Nat) (ch : IL), (fl cs c j ch).length = ch.length
  | 0, _, _ => rfl
  | c + 1, j, ch => by unfold fl; rw [fl_len cs c, List.length_set]
theorem tk_len : ∀ (l : List St) (b : Int) (ch : IL), (tk l b ch).length = ch.length
  | [], _, _ => rfl
  | s :: l, b, ch => by
    unfold tk
    cases decide (b < s.1.2) with
    | true => rfl
    | false => simp only [tk_len l, List.length_set]
theorem chs_len (cs : CL) (t : Int) : (chs cs t).length = cs.length := by
  unfold chs
  cases decide (t = -1) with
  | true => simp only [fl_len, List.length_replicate]
  | false => simp only [tk_len, List.length_replicate]
theorem chC_len (cs : CL) (ts : IL) (hc : cs.length ≤ 40) (ht : ts.length ≤ 20) : (chC cs ts).length ≤ 4000 ∧ ∀ i, i < (chC cs ts).length → (gL (chC cs ts) i).length ≤ 4000 := by
  have h0 : ([] : List IL).length ≤ 4000 ∧ ∀ i, i < ([] : List IL).length → (gL [] i).length ≤ 4000 := ⟨Nat.zero_le _, fun i hi => by cases hi⟩
  unfold chC
  cases decide (16 < ts.length) with
  | true => exact h0
  | false =>
    cases decide (vcs cs = 0) with
    | false => exact h0
    | true =>
      cases allB (tgB ts) ts.length 0 with
      | false => exact h0
      | true =>
        refine ⟨by simp only [List.length_map]; omega, fun i hi => ?_⟩
        simp only at hi ⊢
        rw [gL_in hi, List.getElem_map, chs_len]
        omega
theorem p9 (cs : CL) (ts : IL) (hi : ∀ x ∈ ts, -9223372036854775808 ≤ x ∧ x ≤ 9223372036854775807) : F9_0 re rk 5000 (curs cs) (ints ts) (fun y => yes (T.r (R.b y)) []) = some () := by
  unfold F9_0 G9_0
  simp only [F26_v, e_bn]
  cases h : few cs ts with
  | false => rfl
  | true =>
    obtain ⟨hc, ht, hm⟩ := few_in h
    obtain ⟨l1, l2⟩ := chC_len cs ts hc ht
    have hee : re.cm .eql (erC cs ts) (erC cs ts) = true := decide_eq_true rfl
    simp only [F27_0, G27_0, F28_0, G28_0, F53_v hc hm ht hi, F54_v hc hm ht hi, hee, F29_v l1 l2, Bool.not_true]
    rfl
end Go.Proofs.Ytcapaihnachkhaa
