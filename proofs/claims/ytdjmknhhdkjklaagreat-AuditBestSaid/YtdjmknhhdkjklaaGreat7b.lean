/-
  Lists of numbers, curves, steps; valid curves.
-/
import Derived.Test.YtdjmknhhdkjklaaGreat7a
set_option linter.unusedVariables false
set_option linter.unusedSimpArgs false
set_option maxRecDepth 100000
namespace Go.Proofs.YtdjmknhhdkjklaaGreat
open Go.Os
open Go.ChangeShapes Go.WideShapes Go.ChangeAt Go.RowKit
abbrev IL := List Int
abbrev CL := List (IL × IL)
def nI (x : Int) : R := .i .i64 x
def ints (m : IL) : List R := m.map nI
def cur (c : IL × IL) : R := .a [.ro 1 (ints c.1), .ro 1 (ints c.2)]
def curs (cs : CL) : List R := cs.map cur
def gI (m : IL) (i : Nat) : Int := m.getD i 0
def gC (cs : CL) (i : Nat) : IL × IL := cs.getD i ([], [])
theorem ints_of : ∀ {l : List R}, (∀ x ∈ l, shOK (.i .i64) x) → ∃ m, l = ints m ∧ ∀ x ∈ m, -9223372036854775808 ≤ x ∧ x ≤ 9223372036854775807
  | [], _ => ⟨[], rfl, by simp⟩
  | x :: l, h => by
    obtain ⟨m, rfl, hm⟩ := ints_of (l := l) fun y hy => h y (by simp [hy])
    obtain ⟨n, rfl, h1, h2⟩ := h x (by simp)
    refine ⟨n :: m, rfl, fun y hy => ?_⟩
    rcases List.mem_cons.1 hy with rfl | hy
    · exact ⟨h1, h2⟩
    · exact hm y hy
theorem curs_of : ∀ {l : List R}, (∀ x ∈ l, shOK (.ag [.sl 1 (.i .i64), .sl 1 (.i .i64)]) x) → ∃ cs, l = curs cs
  | [], _ => ⟨[], rfl⟩
  | x :: l, h => by
    obtain ⟨cs, rfl⟩ := curs_of (l := l) fun y hy => h y (by simp [hy])
    obtain ⟨c, rfl, _, _, rfl, ⟨r, rfl, _, hr⟩, _, _, rfl, ⟨d, rfl, _, hd⟩, rfl⟩ := h x (by simp)
    obtain ⟨m, rfl, _⟩ := ints_of hr
    obtain ⟨m', rfl, _⟩ := ints_of hd
    exact ⟨(m, m') :: cs, rfl⟩
theorem ints_len (m : IL) : (ints m).length = m.length := List.length_map _
theorem curs_len (m : CL) : (curs m).length = m.length := List.length_map _
theorem len_ints (m : IL) : re.len (ints m) = m.length := List.length_map _
theorem len_curs (m : CL) : re.len (curs m) = m.length := List.length_map _
theorem gI_in {m : IL} {i : Nat} (h : i < m.length) : gI m i = m[i] := by
  show m.getD i 0 = _
  rw [List.getD_eq_getElem?_getD, List.getElem?_eq_getElem h]; rfl
theorem gI_out {m : IL} {i : Nat} (h : ¬ i < m.length) : gI m i = 0 := by
  show m.getD i 0 = _
  rw [List.getD_eq_getElem?_getD, List.getElem?_eq_none (by omega)]; rfl
theorem gC_in {m : CL} {i : Nat} (h : i < m.length) : gC m i = m[i] := by
  show m.getD i ([], []) = _
  rw [List.getD_eq_getElem?_getD, List.getElem?_eq_getElem h]; rfl
theorem gC_out {m : CL} {i : Nat} (h : ¬ i < m.length) : gC m i = ([], []) := by
  show m.getD i ([], []) = _
  rw [List.getD_eq_getElem?_getD, List.getElem?_eq_none (by omega)]; rfl
theorem cell_ints (m : IL) (i : Nat) (h : i < m.length) : cellOf (ints m) i 0 = nI (gI m i) := by
  unfold cellOf ints
  rw [List.getElem?_map, List.getElem?_eq_getElem h, gI_in h]
  rfl
theorem ci_ints (m : IL) (i : Nat) : rk.ci (ints m) i 0 = gI m i := by
  by_cases h : i < m.length
  · show rci (cellOf (ints m) i 0) = _
    rw [cell_ints m i h]; rfl
  · show rci (cellOf (ints m) i 0) = _
    unfold cellOf ints
    rw [List.getElem?_map, List.getElem?_eq_none (by omega), gI_out h]
    rfl
theorem okE_ints {m : IL} {i : Nat} (h : i < m.length) : rk.okE [.i .i64] false (ints m) i = true := by
  show (match (ints m)[i]? with | some x => _ | none => false) = true
  unfold ints
  rw [List.getElem?_map, List.getElem?_eq_getElem h]
  rfl
theorem okC_ints {m : IL} {i : Nat} (h : i < m.length) : rk.okC [.i .i64] (ints m) i 0 = true := by
  show (match (ints m)[i]? with | some x => _ | none => false) = true
  unfold ints
  rw [List.getElem?_map, List.getElem?_eq_getElem h]
  rfl
theorem okE_curs {m : CL} {i : Nat} (h : i < m.length) : rk.okE [.sl 1 (.i .i64), .sl 1 (.i .i64)] true (curs m) i = true := by
  show (match (curs m)[i]? with | some x => _ | none => false) = true
  unfold curs
  rw [List.getElem?_map, List.getElem?_eq_getElem h]
  rfl
theorem cl_curs (m : CL) (i : Nat) : rk.cl (curs m) i 0 = ints (gC m i).1 ∧ rk.cl (curs m) i 1 = ints (gC m i).2 := by
  by_cases h : i < m.length
  · constructor <;>
    · show rcl (cellOf (curs m) i _) = _
      unfold cellOf curs
      rw [List.getElem?_map, List.getElem?_eq_getElem h, gC_in h]
      rfl
  · constructor <;>
    · show rcl (cellOf (curs m) i _) = _
      unfold cellOf curs
      rw [List.getElem?_map, List.getElem?_eq_none (by omega), gC_out h]
      rfl
theorem cl_curs0 (m : CL) (i : Nat) : rk.cl (curs m) i 0 = ints (gC m i).1 := (cl_curs m i).1
theorem cl_curs1 (m : CL) (i : Nat) : rk.cl (curs m) i 1 = ints (gC m i).2 := (cl_curs m i).2
theorem upd_ints {m : IL} {i : Nat} (x : Int) : rk.upd (ints m) i 0 (nI x) = ints (m.set i x) := by
  show (match (ints m)[i]? with | some y => (ints m).set i (y.setCell 0 (nI x)) | none => ints m) = _
  unfold ints
  rw [List.getElem?_map]
  by_cases h : i < m.length
  · rw [List.getElem?_eq_getElem h, List.map_set]; rfl
  · rw [List.getElem?_eq_none (by omega), List.set_eq_of_length_le (by omega)]; rfl
theorem e_sub1 {j : Nat} (h : 0 < j) (h' : j < 4611686018427387904) : re.ar .sub .i64 (j : Int) 1 = ((j - 1 : Nat) : Int) := by
  show IntKind.wrap .i64 ((j : Int) - 1) = _
  rw [wrap64 (by omega) (by omega)]; omega
def allB (p : Nat → Bool) : Nat → Nat → Bool
  | 0, _ => true
  | c + 1, j => match p j with
    | true => allB p c (j + 1)
    | false => false
theorem allB_iff {p : Nat → Bool} : ∀ {c j : Nat}, allB p c j = true ↔ ∀ i, j ≤ i → i < j + c → p i = true
  | 0, j => by simp only [allB, true_iff]; intro i h1 h2; omega
  | c + 1, j => by
    unfold allB
    cases h : p j with
    | true =>
      simp only [allB_iff (c := c)]
      constructor
      · intro g i h1 h2
        by_cases e : i = j
        · subst e; exact h
        · exact g i (by omega) (by omega)
      · intro g i h1 h2
        exact g i (by omega) (by omega)
    | false =>
      simp only [false_iff, Bool.false_eq_true]
      intro g
      have := g j (by omega) (by omega)
      rw [h] at this; cases this
def okP (r d : IL) (i : Nat) : Prop := 0 ≤ gI r i ∧ gI r i ≤ 65535 ∧ 0 ≤ gI d i ∧ gI d i ≤ 70368744177664 ∧ (0 < i → gI r (i - 1) ≤ gI r i)
def VC (r d : IL) : Prop := d.length = r.length ∧ 1 ≤ r.length ∧ r.length ≤ 179 ∧ gI r 0 = 0 ∧ ∀ i, i < r.length → okP r d i
open Classical in
noncomputable def vc (r d : IL) : Bool := decide (VC r d)
open Classical in
theorem vc_yes {r d : IL} (h : VC r d) : vc r d = true := by unfold vc; exact decide_eq_true h
open Classical in
theorem vc_no {r d : IL} (h : ¬ VC r d) : vc r d = false := by unfold vc; exact decide_eq_false h
open Classical in
theorem vc_of {r d : IL} (h : vc r d = true) : VC r d := by unfold vc at h; exact of_decide_eq_true h
def okA (r d : IL) (i : Nat) : Bool := (decide (i = 0) || decide (gI r (i - 1) ≤ gI r i)) && (decide (0 ≤ gI d i) && decide (gI d i ≤ 70368744177664))
theorem L43_v (r d : IL) (k0 : Bool → Option Unit) (k1 : Option Unit) (hd : d.length = r.length) (hr : r.length ≤ 179) : ∀ (cnt j n : Nat), j + cnt = r.length → cnt < n →
    L43_5_0 re rk 5000 n k0 k1 (ints r) (ints d) ((r.length : Nat) : Int) (j : Int) = match allB (okA r d) cnt j with | true => k1 | false => k0 false := by
  intro cnt
  induction cnt with
  | zero =>
    intro j n h hn
    obtain ⟨n, rfl⟩ : ∃ n', n = n' + 1 := ⟨n - 1, by omega⟩
    have hlt : re.cm .lss (j : Int) ((r.length : Nat) : Int) = false := decide_eq_false (by omega)
    simp only [L43_5_0, GL43_5_0, hlt, allB]
  | succ cnt ih =>
    intro j n h hn
    obtain ⟨n, rfl⟩ : ∃ n', n = n' + 1 := ⟨n - 1, by omega⟩
    have hlt : re.cm .lss (j : Int) ((r.length : Nat) : Int) = true := decide_eq_true (by omega)
    have h1 : j < r.length := by omega
    have h2 : j < d.length := by omega
    simp only [L43_5_0, GL43_5_0, hlt, len_ints, e_ix h1, e_ix h2, okE_ints h1, okE_ints h2, ci_ints, e_inc (show j < 4611686018427387904 by omega), ih (j + 1) n (by omega) (by omega), allB, okA, e_lss, e_gtr]
    by_cases hj : j = 0
    · subst hj
      have e2 : decide ((0 : Int) < ((0 : Nat) : Int)) = false := rfl
      simp only [e2, decide_true, Bool.true_or, Bool.true_and]
      by_cases a : gI d 0 < 0
      · simp [a, show ¬ 0 ≤ gI d 0 by omega]
      · by_cases b : 70368744177664 < gI d 0
        · simp [a, b, show 0 ≤ gI d 0 by omega, show ¬ gI d 0 ≤ 70368744177664 by omega]
        · simp [a, b, show 0 ≤ gI d 0 by omega, show gI d 0 ≤ 70368744177664 by omega]
    · have e2 : decide ((0 : Int) < (j : Int)) = true := decide_eq_true (by omega)
      have h3 : j - 1 < r.length := by omega
      simp only [e2, e_sub1 (show 0 < j by omega) (by omega), e_ix h3, okE_ints h3, decide_eq_false hj, Bool.false_or, ci_ints]
      by_cases c : gI r j < gI r (j - 1)
      · simp [c, show ¬ gI r (j - 1) ≤ gI r j by omega]
      · by_cases a : gI d j < 0
        · simp [a, c, show gI r (j - 1) ≤ gI r j by omega, show ¬ 0 ≤ gI d j by omega]
        · by_cases b : 70368744177664 < gI d j
          · simp [a, b, c, show gI r (j - 1) ≤ gI r j by omega, show 0 ≤ gI d j by omega, show ¬ gI d j ≤ 70368744177664 by omega]
          · simp [a, b, c, show gI r (j - 1) ≤ gI r j by omega, show 0 ≤ gI d j by omega, show gI d j ≤ 70368744177664 by omega]
theorem e_on0 (n : Nat) : re.on n = ((n : Nat) : Int) := rfl
theorem mono_le {r : IL} (h : ∀ i, 0 < i → i < r.length → gI r (i - 1) ≤ gI r i) : ∀ {i j : Nat}, i ≤ j → j < r.length → gI r i ≤ gI r j := by
  intro i j
  induction j with
  | zero => intro h1 h2; have : i = 0 := by omega
            subst this; exact Int.le_refl _
  | succ j ih =>
    intro h1 h2
    by_cases e : i = j + 1
    · subst e; exact Int.le_refl _
    · have := ih (by omega) (by omega)
      have := h (j + 1) (by omega) h2
      simp only [Nat.add_sub_cancel] at this
      omega
theorem vc_a (r d : IL) (hd : d.length = r.length) (h1 : 1 ≤ r.length) (h2 : r.length ≤ 179) (h0 : gI r 0 = 0) (hl : gI r (r.length - 1) ≤ 65535) : allB (okA r d) r.length 0 = vc r d := by
  by_cases h : VC r d
  · rw [vc_yes h, allB_iff]
    intro i _ hi
    obtain ⟨_, _, a, b, c⟩ := h.2.2.2.2 i (by omega)
    unfold okA
    by_cases e : i = 0
    · subst e; simp [a, b]
    · simp only [decide_eq_true a, decide_eq_true b, decide_eq_true (c (by omega)), Bool.or_true, Bool.and_self]
  · rw [vc_no h, ← Bool.not_eq_true, allB_iff]
    intro g
    apply h
    have m : ∀ i, 0 < i → i < r.length → gI r (i - 1) ≤ gI r i := by
      intro i hi hi'
      have := g i (by omega) (by omega)
      unfold okA at this
      simp only [Bool.and_eq_true, Bool.or_eq_true, decide_eq_true_eq] at this
      rcases this.1 with e | e
      · omega
      · exact e
    refine ⟨hd, h1, h2, h0, fun i hi => ?_⟩
    have := g i (by omega) (by omega)
    unfold okA at this
    simp only [Bool.and_eq_true, Bool.or_eq_true, decide_eq_true_eq] at this
    have a := mono_le m (show 0 ≤ i by omega) hi
    have b := mono_le m (show i ≤ r.length - 1 by omega) (by omega)
    exact ⟨by omega, by omega, this.2.1, this.2.2, fun h => m i h hi⟩
theorem F43_v (r d : IL) (k : Bool → Option Unit) : F43_0 re rk 5000 (ints r) (ints d) k = k (vc r d) := by
  have no : ¬ VC r d → vc r d = false := vc_no
  unfold F43_0 G43_0
  simp only [len_ints, e_on, e_neq, e_lss, e_gtr]
  by_cases hd : d.length = r.length
  · have e1 : decide (((r.length : Nat) : Int) ≠ ((d.length : Nat) : Int)) = false := decide_eq_false (by omega)
    simp only [e1]
    by_cases h1 : r.length < 1
    · rw [decide_eq_true (show ((r.length : Nat) : Int) < 1 by omega), no fun h => by have := h.2.1; omega]
    · rw [decide_eq_false (show ¬ ((r.length : Nat) : Int) < 1 by omega)]
      simp only
      by_cases h2 : 179 < r.length
      · rw [decide_eq_true (show (179 : Int) < ((r.length : Nat) : Int) by omega), no fun h => by have := h.2.2.1; omega]
      · rw [decide_eq_false (show ¬ (179 : Int) < ((r.length : Nat) : Int) by omega)]
        have i0 : re.ix 0 r.length = some 0 := e_ix (j := 0) (by omega)
        have i1 : re.ix (re.ar .sub .i64 ((r.length : Nat) : Int) 1) r.length = some (r.length - 1) := by
          rw [e_sub1 (by omega) (by omega)]; exact e_ix (by omega)
        simp only [i0, i1, okE_ints (show 0 < r.length by omega), okE_ints (show r.length - 1 < r.length by omega), ci_ints]
        by_cases h0 : gI r 0 = 0
        · rw [decide_eq_false (by simpa using h0)]
          simp only
          by_cases hl : 65535 < gI r (r.length - 1)
          · rw [decide_eq_true hl, no fun h => by have := (h.2.2.2.2 (r.length - 1) (by omega)).2.1; omega]
          · rw [decide_eq_false hl]
            have := L43_v r d (fun x => k x) (k true) hd (by omega) r.length 0 5000 (by omega) (by omega)
            simp only
            refine (show _ = _ from this).trans ?_
            rw [vc_a r d hd (by omega) (by omega) h0 (by omega)]
            cases vc r d <;> rfl
        · rw [decide_eq_true (by simpa using h0), no fun h => h0 h.2.2.2.1]
  · have e1 : decide (((r.length : Nat) : Int) ≠ ((d.length : Nat) : Int)) = true := decide_eq_true (by omega)
    simp only [e1]
    rw [no fun h => hd h.1]
def okB (r d : IL) (i : Nat) : Bool := (decide (0 ≤ gI r i) && decide (gI r i ≤ 65535)) && ((decide (0 ≤ gI d i) && decide (gI d i ≤ 70368744177664)) && (decide (i = 0) || decide (gI r (i - 1) ≤ gI r i)))
theorem okB_iff (r d : IL) (i : Nat) : okB r d i = true ↔ okP r d i := by
  unfold okB okP
  simp only [Bool.and_eq_true, Bool.or_eq_true, decide_eq_true_eq]
  constructor
  · rintro ⟨⟨a, b⟩, ⟨c, d⟩, e⟩
    exact ⟨a, b, c, d, fun h => by rcases e with e | e; (omega); exact e⟩
  · rintro ⟨a, b, c, d, e⟩
    refine ⟨⟨a, b⟩, ⟨c, d⟩, ?_⟩
    by_cases h : i = 0
    · exact Or.inl h
    · exact Or.inr (e (by omega))
theorem L27_v (r d : IL) (k0 : Bool → Option Unit) (k1 : Option Unit) (hd : d.length = r.length) (hr : r.length ≤ 179) : ∀ (cnt j n : Nat), j + cnt = r.length → cnt < n →
    L27_5_0 re rk 5000 n k0 k1 (ints r) (ints d) ((r.length : Nat) : Int) (j : Int) = match allB (okB r d) cnt j with | true => k1 | false => k0 false := by
  intro cnt
  induction cnt with
  | zero =>
    intro j n h hn
    obtain ⟨n, rfl⟩ : ∃ n', n = n' + 1 := ⟨n - 1, by omega⟩
    have hlt : re.cm .lss (j : Int) ((r.length : Nat) : Int) = false := decide_eq_false (by omega)
    simp only [L27_5_0, GL27_5_0, hlt, allB]
  | succ cnt ih =>
    intro j n h hn
    obtain ⟨n, rfl⟩ : ∃ n', n = n' + 1 := ⟨n - 1, by omega⟩
    have hlt : re.cm .lss (j : Int) ((r.length : Nat) : Int) = true := decide_eq_true (by omega)
    have h1 : j < r.length := by omega
    have h2 : j < d.length := by omega
    simp only [L27_5_0, GL27_5_0, hlt, len_ints, e_ix h1, e_ix h2, okE_ints h1, okE_ints h2, ci_ints, e_inc (show j < 4611686018427387904 by omega), ih (j + 1) n (by omega) (by omega), allB, okB, e_lss, e_gtr]
    by_cases x1 : gI r j < 0
    · simp [x1, show ¬ 0 ≤ gI r j by omega]
    · by_cases x2 : 65535 < gI r j
      · simp [x1, x2, show ¬ gI r j ≤ 65535 by omega]
      · by_cases x3 : gI d j < 0
        · simp [x1, x2, x3, show ¬ 0 ≤ gI d j by omega]
        · by_cases x4 : 70368744177664 < gI d j
          · simp [x1, x2, x3, x4, show ¬ gI d j ≤ 70368744177664 by omega]
          · have y1 : 0 ≤ gI r j := by omega
            have y2 : gI r j ≤ 65535 := by omega
            have y3 : 0 ≤ gI d j := by omega
            have y4 : gI d j ≤ 70368744177664 := by omega
            simp only [decide_eq_false x1, decide_eq_false x2, decide_eq_false x3, decide_eq_false x4, decide_eq_true y1, decide_eq_true y2, decide_eq_true y3, decide_eq_true y4, Bool.and_self, Bool.true_and]
            by_cases hj : j = 0
            · subst hj
              have e2 : decide ((0 : Int) < ((0 : Nat) : Int)) = false := rfl
              simp only [e2, decide_true, Bool.true_or]
            · have e2 : decide ((0 : Int) < (j : Int)) = true := decide_eq_true (by omega)
              have h3 : j - 1 < r.length := by omega
              simp only [e2, e_sub1 (show 0 < j by omega) (by omega), e_ix h3, okE_ints h3, decide_eq_false hj, Bool.false_or, ci_ints]
              by_cases c : gI r j < gI r (j - 1)
              · simp [c, show ¬ gI r (j - 1) ≤ gI r j by omega]
              · simp [c, show gI r (j - 1) ≤ gI r j by omega]
theorem vc_b (r d : IL) (hd : d.length = r.length) (h1 : 1 ≤ r.length) (h2 : r.length ≤ 179) (h0 : gI r 0 = 0) : allB (okB r d) r.length 0 = vc r d := by
  by_cases h : VC r d
  · rw [vc_yes h, allB_iff]
    intro i _ hi
    exact (okB_iff r d i).2 (h.2.2.2.2 i (by omega))
  · rw [vc_no h, ← Bool.not_eq_true, allB_iff]
    intro g
    exact h ⟨hd, h1, h2, h0, fun i hi => (okB_iff r d i).1 (g i (by omega) (by omega))⟩
theorem F27_v (r d : IL) (k : Bool → Option Unit) : F27_0 re rk 5000 (ints r) (ints d) k = k (vc r d) := by
  have no : ¬ VC r d → vc r d = false := vc_no
  unfold F27_0 G27_0
  simp only [len_ints, e_on, e_neq, e_lss, e_gtr]
  by_cases h1 : r.length < 1
  · rw [decide_eq_true (show ((r.length : Nat) : Int) < 1 by omega), no fun h => by have := h.2.1; omega]
  · rw [decide_eq_false (show ¬ ((r.length : Nat) : Int) < 1 by omega)]
    simp only
    by_cases h2 : 179 < r.length
    · rw [decide_eq_true (show (179 : Int) < ((r.length : Nat) : Int) by omega), no fun h => by have := h.2.2.1; omega]
    · rw [decide_eq_false (show ¬ (179 : Int) < ((r.length : Nat) : Int) by omega)]
      simp only
      by_cases hd : d.length = r.length
      · have e1 : decide (((d.length : Nat) : Int) ≠ ((r.length : Nat) : Int)) = false := decide_eq_false (by omega)
        have i0 : re.ix 0 r.length = some 0 := e_ix (j := 0) (by omega)
        simp only [e1, i0, okE_ints (show 0 < r.length by omega), ci_ints]
        by_cases h0 : gI r 0 = 0
        · rw [decide_eq_false (by simpa using h0)]
          simp only
          have := L27_v r d (fun x => k x) (k true) hd (by omega) r.length 0 5000 (by omega) (by omega)
          refine (show _ = _ from this).trans ?_
          rw [vc_b r d hd (by omega) (by omega) h0]
          cases vc r d <;> rfl
        · rw [decide_eq_true (by simpa using h0), no fun h => h0 h.2.2.2.1]
      · have e1 : decide (((d.length : Nat) : Int) ≠ ((r.length : Nat) : Int)) = true := decide_eq_true (by omega)
        simp only [e1]
        rw [no fun h => hd h.1]
noncomputable def vcC (cs : CL) (i : Nat) : Bool := vc (gC cs i).1 (gC cs i).2
noncomputable def vcs (cs : CL) : Int := match allB (vcC cs) cs.length 0 with | true => 0 | false => 1
theorem L26_v (cs : CL) (k0 : Int → Option Unit) (k1 : Option Unit) (hc : cs.length ≤ 40) : ∀ (cnt j n : Nat), j + cnt = cs.length → cnt < n →
    L26_4_0 re rk 5000 n k0 k1 (curs cs) ((cs.length : Nat) : Int) (j : Int) = match allB (vcC cs) cnt j with | true => k1 | false => k0 1 := by
  intro cnt
  induction cnt with
  | zero =>
    intro j n h hn
    obtain ⟨n, rfl⟩ : ∃ n', n = n' + 1 := ⟨n - 1, by omega⟩
    have hlt : re.cm .lss (j : Int) ((cs.length : Nat) : Int) = false := decide_eq_false (by omega)
    simp only [L26_4_0, GL26_4_0, hlt, allB]
  | succ cnt ih =>
    intro j n h hn
    obtain ⟨n, rfl⟩ : ∃ n', n = n' + 1 := ⟨n - 1, by omega⟩
    have hlt : re.cm .lss (j : Int) ((cs.length : Nat) : Int) = true := decide_eq_true (by omega)
    have h1 : j < cs.length := by omega
    simp only [L26_4_0, GL26_4_0, hlt, len_curs, e_ix h1, okE_curs h1, cl_curs0, cl_curs1, F43_v, e_bn, e_inc (show j < 4611686018427387904 by omega), ih (j + 1) n (by omega) (by omega), allB, vcC]
    cases vc (gC cs j).1 (gC cs j).2 <;> rfl
theorem F26_v (cs : CL) (hc : cs.length ≤ 40) (k : Int → Option Unit) : F26_0 re rk 5000 (curs cs) k = k (vcs cs) := by
  unfold F26_0 G26_0 vcs
  have e : re.cm .gtr ((cs.length : Nat) : Int) 65536 = false := decide_eq_false (by omega)
  simp only [len_curs, e_on, e]
  have := L26_v cs (fun x => k x) (k 0) hc cs.length 0 5000 (by omega) (by omega)
  refine (show _ = _ from this).trans ?_
  cases allB (vcC cs) cs.length 0 <;> rfl
theorem L17_v (cs : CL) (k0 : Int → Option Unit) (k1 : Option Unit) (hc : cs.length ≤ 40) : ∀ (cnt j n : Nat), j + cnt = cs.length → cnt < n →
    L17_4_0 re rk 5000 n k0 k1 (curs cs) ((cs.length : Nat) : Int) (j : Int) = match allB (vcC cs) cnt j with | true => k1 | false => k0 1 := by
  intro cnt
  induction cnt with
  | zero =>
    intro j n h hn
    obtain ⟨n, rfl⟩ : ∃ n', n = n' + 1 := ⟨n - 1, by omega⟩
    have hlt : re.cm .lss (j : Int) ((cs.length : Nat) : Int) = false := decide_eq_false (by omega)
    simp only [L17_4_0, GL17_4_0, hlt, allB]
  | succ cnt ih =>
    intro j n h hn
    obtain ⟨n, rfl⟩ : ∃ n', n = n' + 1 := ⟨n - 1, by omega⟩
    have hlt : re.cm .lss (j : Int) ((cs.length : Nat) : Int) = true := decide_eq_true (by omega)
    have h1 : j < cs.length := by omega
    simp only [L17_4_0, GL17_4_0, hlt, len_curs, e_ix h1, okE_curs h1, cl_curs0, cl_curs1, F27_v, e_bn, e_inc (show j < 4611686018427387904 by omega), ih (j + 1) n (by omega) (by omega), allB, vcC]
    cases vc (gC cs j).1 (gC cs j).2 <;> rfl
theorem F17_v (cs : CL) (hc : cs.length ≤ 40) (k : Int → Option Unit) : F17_0 re rk 5000 (curs cs) k = k (vcs cs) := by
  unfold F17_0 G17_0 vcs
  have e : re.cm .gtr ((cs.length : Nat) : Int) 65536 = false := decide_eq_false (by omega)
  simp only [len_curs, e_on, e]
  have := L17_v cs (fun x => k x) (k 0) hc cs.length 0 5000 (by omega) (by omega)
  refine (show _ = _ from this).trans ?_
  cases allB (vcC cs) cs.length 0 <;> rfl
theorem vcs_all {cs : CL} (h : vcs cs = 0) : ∀ i, i < cs.length → VC (gC cs i).1 (gC cs i).2 := by
  intro i hi
  unfold vcs at h
  cases e : allB (vcC cs) cs.length 0 with
  | false => rw [e] at h; cases h
  | true => exact vc_of (allB_iff.1 e i (by omega) (by omega))
end Go.Proofs.YtdjmknhhdkjklaaGreat
