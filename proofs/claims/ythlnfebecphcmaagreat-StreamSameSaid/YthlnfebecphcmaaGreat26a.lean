/-
  Lists compared, one cell after the other.
-/
import Derived.Test.YthlnfebecphcmaaGreat9e
set_option linter.unusedVariables false
set_option linter.unusedSimpArgs false
set_option maxRecDepth 100000
namespace Go.Proofs.YthlnfebecphcmaaGreat
open Go.Os
open Go.ChangeShapes Go.WideShapes Go.ChangeAt Go.RowKit
def allB (p : Nat → Bool) : Nat → Nat → Bool
  | 0, _ => true
  | c + 1, j => match p j with
    | true => allB p c (j + 1)
    | false => false
theorem allB_all {p : Nat → Bool} (h : ∀ i, p i = true) : ∀ c j, allB p c j = true
  | 0, _ => rfl
  | c + 1, j => by
    unfold allB
    rw [h j]
    exact allB_all h c (j + 1)
theorem neq_not (x y : Int) : re.cm .neq x y = !(re.cm .eql x y) := by
  show decide (x ≠ y) = !(decide (x = y))
  by_cases h : x = y
  · simp [h]
  · simp [h]
theorem e_bn' (x : Bool) : re.bn x = !x := rfl
def eqL (p : Nat → Bool) (xs ys : List R) : Bool := match re.cm .neq (re.on (re.len xs)) (re.on (re.len ys)) with
  | true => false
  | false => allB p xs.length 0
abbrev hC : List Sh := [.i .i64, .b, .i .i64, .i .i64]
abbrev hP : List Sh := [.i .i64, .i .i64]
abbrev hK : List Sh := [.i .i64, .i .i64, .i .i64, .i .i64, .sl 1 (.i .u8), .sl 1 (.i .u8)]
def cC (xs ys : List R) (i : Nat) : Bool := re.ba (re.cm .eql (rk.ci xs i 0) (rk.ci ys i 0)) (re.ba (re.be (rk.cb xs i 1) (rk.cb ys i 1)) (re.ba (re.cm .eql (rk.ci xs i 2) (rk.ci ys i 2)) (re.ba (re.cm .eql (rk.ci xs i 3) (rk.ci ys i 3)) true)))
def cP (xs ys : List R) (i : Nat) : Bool := re.ba (re.cm .eql (rk.ci xs i 0) (rk.ci ys i 0)) (re.ba (re.cm .eql (rk.ci xs i 1) (rk.ci ys i 1)) true)
def cI (xs ys : List R) (i : Nat) : Bool := re.cm .eql (rk.ci xs i 0) (rk.ci ys i 0)
def cS (xs ys : List R) (i : Nat) : Bool := re.cs .eql (rk.cs xs i 0) (rk.cs ys i 0)
def eqY (x y : List R) : Bool := re.cs .eql (re.bs x) (re.bs y)
def cK (xs ys : List R) (i : Nat) : Bool := match re.ba (re.cm .eql (rk.ci xs i 0) (rk.ci ys i 0)) (re.ba (re.cm .eql (rk.ci xs i 1) (rk.ci ys i 1)) (re.ba (re.cm .eql (rk.ci xs i 2) (rk.ci ys i 2)) (re.ba (re.cm .eql (rk.ci xs i 3) (rk.ci ys i 3)) true))) with
  | true => (match eqY (rk.cl xs i 4) (rk.cl ys i 4) with
    | true => eqY (rk.cl xs i 5) (rk.cl ys i 5)
    | false => false)
  | false => false
theorem be_refl (x : Bool) : re.be x x = true := by cases x <;> rfl
theorem eql_refl (x : Int) : re.cm .eql x x = true := decide_eq_true rfl
theorem cs_refl (x : ByteArray) : re.cs .eql x x = true := by
  show (x.data.toList == x.data.toList) = true
  simp
theorem cC_refl (xs : List R) (i : Nat) : cC xs xs i = true := by unfold cC; simp only [be_refl, eql_refl]; rfl
theorem cP_refl (xs : List R) (i : Nat) : cP xs xs i = true := by unfold cP; simp only [eql_refl]; rfl
theorem cI_refl (xs : List R) (i : Nat) : cI xs xs i = true := eql_refl _
theorem cS_refl (xs : List R) (i : Nat) : cS xs xs i = true := cs_refl _
theorem cK_refl (xs : List R) (i : Nat) : cK xs xs i = true := by
  have e : re.ba true (re.ba true (re.ba true (re.ba true true))) = true := rfl
  unfold cK eqY; simp only [eql_refl, cs_refl, e]
theorem eqL_refl {p : Nat → Bool} (h : ∀ i, p i = true) (xs : List R) : eqL p xs xs = true := by
  unfold eqL
  rw [neq_not, eql_refl]
  exact allB_all h _ _
theorem okb_ok : ∀ {l : List R}, (∀ x ∈ l, shOK (.i .u8) x) → re.okb l = true := by
  intro l h
  show l.all isU8 = true
  rw [List.all_eq_true]
  intro x hx
  obtain ⟨n, rfl, _⟩ := h x hx
  rfl
theorem cl_k4 {l : List R} (hl : ∀ x ∈ l, shOK (.ag hK) x) {i : Nat} (hi : i < l.length) : (∀ x ∈ rk.cl l i 4, shOK (.i .u8) x) ∧ ∀ x ∈ rk.cl l i 5, shOK (.i .u8) x := by
  obtain ⟨cs, hx, hc⟩ := hl l[i] (List.getElem_mem hi)
  obtain ⟨_, _, rfl, _, _, _, rfl, _, _, _, rfl, _, _, _, rfl, _, _, _, rfl, ⟨d, rfl, _, hd⟩, _, _, rfl, ⟨e, rfl, _, he⟩, rfl⟩ := hc
  have h4 : rk.cl l i 4 = d := by
    show rcl (cellOf l i 4) = d
    unfold cellOf
    rw [List.getElem?_eq_getElem hi, hx]
    rfl
  have h5 : rk.cl l i 5 = e := by
    show rcl (cellOf l i 5) = e
    unfold cellOf
    rw [List.getElem?_eq_getElem hi, hx]
    rfl
  rw [h4, h5]; exact ⟨hd, he⟩
theorem cl_t {l : List R} (hl : ∀ x ∈ l, shOK (.sl 6 (.ag hK)) x) {i : Nat} (hi : i < l.length) : ∀ x ∈ rk.cl l i 0, shOK (.ag hK) x := by
  obtain ⟨d, hx, _, hd⟩ := hl l[i] (List.getElem_mem hi)
  have h0 : rk.cl l i 0 = d := by
    show rcl (cellOf l i 0) = d
    unfold cellOf
    rw [List.getElem?_eq_getElem hi, hx]
    rfl
  rw [h0]; exact hd
theorem L49_v {xs ys : List R} (hx : ∀ x ∈ xs, shOK (.ag hC) x) (hy : ∀ x ∈ ys, shOK (.ag hC) x) (hl : ys.length = xs.length) (hn : xs.length < 100000) (k0 : List R → List R → Bool → Option Unit) (k1 : List R → List R → Option Unit) : ∀ (cnt j n : Nat), j + cnt = xs.length → cnt < n →
    L49_4_0 re rk 5000 n k0 k1 xs ys (re.on (re.len xs)) (j : Int) = match allB (cC xs ys) cnt j with | true => k1 xs ys | false => k0 xs ys false := by
  intro cnt
  induction cnt with
  | zero =>
    intro j n h hf
    obtain ⟨n, rfl⟩ : ∃ n', n = n' + 1 := ⟨n - 1, by omega⟩
    have hlt : re.cm .lss (j : Int) (re.on (re.len xs)) = false := decide_eq_false (by simp only [e_on, e_len]; omega)
    simp only [L49_4_0, GL49_4_0, hlt, allB]
  | succ cnt ih =>
    intro j n h hf
    obtain ⟨n, rfl⟩ : ∃ n', n = n' + 1 := ⟨n - 1, by omega⟩
    have hlt : re.cm .lss (j : Int) (re.on (re.len xs)) = true := decide_eq_true (by simp only [e_on, e_len]; omega)
    have h1 : re.ix (j : Int) (re.len xs) = some j := e_ix (by simp only [e_len]; omega)
    have h2 : re.ix (j : Int) (re.len ys) = some j := e_ix (by simp only [e_len]; omega)
    have o1 := okE_ag rfl hx (show j < xs.length by omega)
    have o2 := okE_ag rfl hy (show j < ys.length by omega)
    simp only [L49_4_0, GL49_4_0, hlt, h1, h2, o1, o2, e_inc (show j < 4611686018427387904 by omega), ih (j + 1) n (by omega) (by omega), allB, e_bn]
    have hc : cC xs ys j = re.ba (re.cm .eql (rk.ci xs j 0) (rk.ci ys j 0)) (re.ba (re.be (rk.cb xs j 1) (rk.cb ys j 1)) (re.ba (re.cm .eql (rk.ci xs j 2) (rk.ci ys j 2)) (re.ba (re.cm .eql (rk.ci xs j 3) (rk.ci ys j 3)) true))) := rfl
    rw [← hc]
    cases cC xs ys j <;> rfl
theorem F49_v {xs ys : List R} (hx : ∀ x ∈ xs, shOK (.ag hC) x) (hy : ∀ x ∈ ys, shOK (.ag hC) x) (hn : xs.length < 5000) (k : Bool → Option Unit) : F49_0 re rk 5000 xs ys k = k (eqL (cC xs ys) xs ys) := by
  unfold F49_0 G49_0 eqL
  cases h : re.cm .neq (re.on (re.len xs)) (re.on (re.len ys)) with
  | true => rfl
  | false =>
    have hl : ys.length = xs.length := by
      have := of_decide_eq_false h
      simp only [e_on, e_len, ne_eq, Classical.not_not] at this
      omega
    refine (L49_v hx hy hl (by omega) (fun _ _ x => k x) (fun _ _ => k true) xs.length 0 5000 (by omega) (by omega)).trans ?_
    cases allB (cC xs ys) xs.length 0 <;> rfl
theorem L50_v {xs ys : List R} (hx : ∀ x ∈ xs, shOK (.ag hP) x) (hy : ∀ x ∈ ys, shOK (.ag hP) x) (hl : ys.length = xs.length) (hn : xs.length < 100000) (k0 : List R → List R → Bool → Option Unit) (k1 : List R → List R → Option Unit) : ∀ (cnt j n : Nat), j + cnt = xs.length → cnt < n →
    L50_4_0 re rk 5000 n k0 k1 xs ys (re.on (re.len xs)) (j : Int) = match allB (cP xs ys) cnt j with | true => k1 xs ys | false => k0 xs ys false := by
  intro cnt
  induction cnt with
  | zero =>
    intro j n h hf
    obtain ⟨n, rfl⟩ : ∃ n', n = n' + 1 := ⟨n - 1, by omega⟩
    have hlt : re.cm .lss (j : Int) (re.on (re.len xs)) = false := decide_eq_false (by simp only [e_on, e_len]; omega)
    simp only [L50_4_0, GL50_4_0, hlt, allB]
  | succ cnt ih =>
    intro j n h hf
    obtain ⟨n, rfl⟩ : ∃ n', n = n' + 1 := ⟨n - 1, by omega⟩
    have hlt : re.cm .lss (j : Int) (re.on (re.len xs)) = true := decide_eq_true (by simp only [e_on, e_len]; omega)
    have h1 : re.ix (j : Int) (re.len xs) = some j := e_ix (by simp only [e_len]; omega)
    have h2 : re.ix (j : Int) (re.len ys) = some j := e_ix (by simp only [e_len]; omega)
    have o1 := okE_ag rfl hx (show j < xs.length by omega)
    have o2 := okE_ag rfl hy (show j < ys.length by omega)
    simp only [L50_4_0, GL50_4_0, hlt, h1, h2, o1, o2, e_inc (show j < 4611686018427387904 by omega), ih (j + 1) n (by omega) (by omega), allB, e_bn]
    have hc : cP xs ys j = re.ba (re.cm .eql (rk.ci xs j 0) (rk.ci ys j 0)) (re.ba (re.cm .eql (rk.ci xs j 1) (rk.ci ys j 1)) true) := rfl
    rw [← hc]
    cases cP xs ys j <;> rfl
theorem F50_v {xs ys : List R} (hx : ∀ x ∈ xs, shOK (.ag hP) x) (hy : ∀ x ∈ ys, shOK (.ag hP) x) (hn : xs.length < 5000) (k : Bool → Option Unit) : F50_0 re rk 5000 xs ys k = k (eqL (cP xs ys) xs ys) := by
  unfold F50_0 G50_0 eqL
  cases h : re.cm .neq (re.on (re.len xs)) (re.on (re.len ys)) with
  | true => rfl
  | false =>
    have hl : ys.length = xs.length := by
      have := of_decide_eq_false h
      simp only [e_on, e_len, ne_eq, Classical.not_not] at this
      omega
    refine (L50_v hx hy hl (by omega) (fun _ _ x => k x) (fun _ _ => k true) xs.length 0 5000 (by omega) (by omega)).trans ?_
    cases allB (cP xs ys) xs.length 0 <;> rfl
theorem L51_v {xs ys : List R} (hx : ∀ x ∈ xs, shOK (.i .i64) x) (hy : ∀ x ∈ ys, shOK (.i .i64) x) (hl : ys.length = xs.length) (hn : xs.length < 100000) (k0 : List R → List R → Bool → Option Unit) (k1 : List R → List R → Option Unit) : ∀ (cnt j n : Nat), j + cnt = xs.length → cnt < n →
    L51_4_0 re rk 5000 n k0 k1 xs ys (re.on (re.len xs)) (j : Int) = match allB (cI xs ys) cnt j with | true => k1 xs ys | false => k0 xs ys false := by
  intro cnt
  induction cnt with
  | zero =>
    intro j n h hf
    obtain ⟨n, rfl⟩ : ∃ n', n = n' + 1 := ⟨n - 1, by omega⟩
    have hlt : re.cm .lss (j : Int) (re.on (re.len xs)) = false := decide_eq_false (by simp only [e_on, e_len]; omega)
    simp only [L51_4_0, GL51_4_0, hlt, allB]
  | succ cnt ih =>
    intro j n h hf
    obtain ⟨n, rfl⟩ : ∃ n', n = n' + 1 := ⟨n - 1, by omega⟩
    have hlt : re.cm .lss (j : Int) (re.on (re.len xs)) = true := decide_eq_true (by simp only [e_on, e_len]; omega)
    have h1 : re.ix (j : Int) (re.len xs) = some j := e_ix (by simp only [e_len]; omega)
    have h2 : re.ix (j : Int) (re.len ys) = some j := e_ix (by simp only [e_len]; omega)
    have o1 := okE_1 rfl hx (show j < xs.length by omega)
    have o2 := okE_1 rfl hy (show j < ys.length by omega)
    simp only [L51_4_0, GL51_4_0, hlt, h1, h2, o1, o2, e_inc (show j < 4611686018427387904 by omega), ih (j + 1) n (by omega) (by omega), allB, e_bn]
    have hc : cI xs ys j = re.cm .eql (rk.ci xs j 0) (rk.ci ys j 0) := rfl
    rw [neq_not, ← hc]
    cases cI xs ys j <;> rfl
theorem F51_v {xs ys : List R} (hx : ∀ x ∈ xs, shOK (.i .i64) x) (hy : ∀ x ∈ ys, shOK (.i .i64) x) (hn : xs.length < 5000) (k : Bool → Option Unit) : F51_0 re rk 5000 xs ys k = k (eqL (cI xs ys) xs ys) := by
  unfold F51_0 G51_0 eqL
  cases h : re.cm .neq (re.on (re.len xs)) (re.on (re.len ys)) with
  | true => rfl
  | false =>
    have hl : ys.length = xs.length := by
      have := of_decide_eq_false h
      simp only [e_on, e_len, ne_eq, Classical.not_not] at this
      omega
    refine (L51_v hx hy hl (by omega) (fun _ _ x => k x) (fun _ _ => k true) xs.length 0 5000 (by omega) (by omega)).trans ?_
    cases allB (cI xs ys) xs.length 0 <;> rfl
theorem L25_v {xs ys : List R} (hx : ∀ x ∈ xs, shOK (.s) x) (hy : ∀ x ∈ ys, shOK (.s) x) (hl : ys.length = xs.length) (hn : xs.length < 100000) (k0 : List R → List R → Bool → Option Unit) (k1 : List R → List R → Option Unit) : ∀ (cnt j n : Nat), j + cnt = xs.length → cnt < n →
    L25_4_0 re rk 5000 n k0 k1 xs ys (re.on (re.len xs)) (j : Int) = match allB (cS xs ys) cnt j with | true => k1 xs ys | false => k0 xs ys false := by
  intro cnt
  induction cnt with
  | zero =>
    intro j n h hf
    obtain ⟨n, rfl⟩ : ∃ n', n = n' + 1 := ⟨n - 1, by omega⟩
    have hlt : re.cm .lss (j : Int) (re.on (re.len xs)) = false := decide_eq_false (by simp only [e_on, e_len]; omega)
    simp only [L25_4_0, GL25_4_0, hlt, allB]
  | succ cnt ih =>
    intro j n h hf
    obtain ⟨n, rfl⟩ : ∃ n', n = n' + 1 := ⟨n - 1, by omega⟩
    have hlt : re.cm .lss (j : Int) (re.on (re.len xs)) = true := decide_eq_true (by simp only [e_on, e_len]; omega)
    have h1 : re.ix (j : Int) (re.len xs) = some j := e_ix (by simp only [e_len]; omega)
    have h2 : re.ix (j : Int) (re.len ys) = some j := e_ix (by simp only [e_len]; omega)
    have o1 := okE_1 rfl hx (show j < xs.length by omega)
    have o2 := okE_1 rfl hy (show j < ys.length by omega)
    simp only [L25_4_0, GL25_4_0, hlt, h1, h2, o1, o2, e_inc (show j < 4611686018427387904 by omega), ih (j + 1) n (by omega) (by omega), allB, e_bn]
    have hc : cS xs ys j = re.cs .eql (rk.cs xs j 0) (rk.cs ys j 0) := rfl
    rw [← hc]
    cases cS xs ys j <;> rfl
theorem F25_v {xs ys : List R} (hx : ∀ x ∈ xs, shOK (.s) x) (hy : ∀ x ∈ ys, shOK (.s) x) (hn : xs.length < 5000) (k : Bool → Option Unit) : F25_0 re rk 5000 xs ys k = k (eqL (cS xs ys) xs ys) := by
  unfold F25_0 G25_0 eqL
  cases h : re.cm .neq (re.on (re.len xs)) (re.on (re.len ys)) with
  | true => rfl
  | false =>
    have hl : ys.length = xs.length := by
      have := of_decide_eq_false h
      simp only [e_on, e_len, ne_eq, Classical.not_not] at this
      omega
    refine (L25_v hx hy hl (by omega) (fun _ _ x => k x) (fun _ _ => k true) xs.length 0 5000 (by omega) (by omega)).trans ?_
    cases allB (cS xs ys) xs.length 0 <;> rfl
theorem L10_v {xs ys : List R} (hx : ∀ x ∈ xs, shOK (.s) x) (hy : ∀ x ∈ ys, shOK (.s) x) (hl : ys.length = xs.length) (hn : xs.length < 100000) (k0 : List R → List R → Bool → Option Unit) (k1 : List R → List R → Option Unit) : ∀ (cnt j n : Nat), j + cnt = xs.length → cnt < n →
    L10_4_0 re rk 5000 n k0 k1 xs ys (re.on (re.len xs)) (j : Int) = match allB (cS xs ys) cnt j with | true => k1 xs ys | false => k0 xs ys false := by
  intro cnt
  induction cnt with
  | zero =>
    intro j n h hf
    obtain ⟨n, rfl⟩ : ∃ n', n = n' + 1 := ⟨n - 1, by omega⟩
    have hlt : re.cm .lss (j : Int) (re.on (re.len xs)) = false := decide_eq_false (by simp only [e_on, e_len]; omega)
    simp only [L10_4_0, GL10_4_0, hlt, allB]
  | succ cnt ih =>
    intro j n h hf
    obtain ⟨n, rfl⟩ : ∃ n', n = n' + 1 := ⟨n - 1, by omega⟩
    have hlt : re.cm .lss (j : Int) (re.on (re.len xs)) = true := decide_eq_true (by simp only [e_on, e_len]; omega)
    have h1 : re.ix (j : Int) (re.len xs) = some j := e_ix (by simp only [e_len]; omega)
    have h2 : re.ix (j : Int) (re.len ys) = some j := e_ix (by simp only [e_len]; omega)
    have o1 := okE_1 rfl hx (show j < xs.length by omega)
    have o2 := okE_1 rfl hy (show j < ys.length by omega)
    simp only [L10_4_0, GL10_4_0, hlt, h1, h2, o1, o2, e_inc (show j < 4611686018427387904 by omega), ih (j + 1) n (by omega) (by omega), allB, e_bn]
    have hc : cS xs ys j = re.cs .eql (rk.cs xs j 0) (rk.cs ys j 0) := rfl
    rw [← hc]
    cases cS xs ys j <;> rfl
theorem F10_v {xs ys : List R} (hx : ∀ x ∈ xs, shOK (.s) x) (hy : ∀ x ∈ ys, shOK (.s) x) (hn : xs.length < 5000) (k : Bool → Option Unit) : F10_0 re rk 5000 xs ys k = k (eqL (cS xs ys) xs ys) := by
  unfold F10_0 G10_0 eqL
  cases h : re.cm .neq (re.on (re.len xs)) (re.on (re.len ys)) with
  | true => rfl
  | false =>
    have hl : ys.length = xs.length := by
      have := of_decide_eq_false h
      simp only [e_on, e_len, ne_eq, Classical.not_not] at this
      omega
    refine (L10_v hx hy hl (by omega) (fun _ _ x => k x) (fun _ _ => k true) xs.length 0 5000 (by omega) (by omega)).trans ?_
    cases allB (cS xs ys) xs.length 0 <;> rfl
theorem F28_v {x y : List R} (hx : ∀ z ∈ x, shOK (.i .u8) z) (hy : ∀ z ∈ y, shOK (.i .u8) z) (k : Bool → Option Unit) : F28_0 re rk 5000 x y k = k (eqY x y) := by
  unfold F28_0 G28_0 eqY
  simp only [okb_ok hx, okb_ok hy]
theorem F139_v {x y : List R} (hx : ∀ z ∈ x, shOK (.i .u8) z) (hy : ∀ z ∈ y, shOK (.i .u8) z) (k : Bool → Option Unit) : F139_0 re rk 5000 x y k = k (eqY x y) := by
  unfold F139_0 G139_0 eqY
  simp only [okb_ok hx, okb_ok hy]
theorem F27_v {xs ys : List R} (hx : ∀ x ∈ xs, shOK (.ag hK) x) (hy : ∀ x ∈ ys, shOK (.ag hK) x) {i : Nat} (h1 : i < xs.length) (h2 : i < ys.length) (k : Bool → Option Unit) :
    F27_0 re rk 5000 (rk.ci xs i 0) (rk.ci xs i 1) (rk.ci xs i 2) (rk.ci xs i 3) (rk.cl xs i 4) (rk.cl xs i 5) (rk.ci ys i 0) (rk.ci ys i 1) (rk.ci ys i 2) (rk.ci ys i 3) (rk.cl ys i 4) (rk.cl ys i 5) k = k (cK xs ys i) := by
  obtain ⟨x4, x5⟩ := cl_k4 hx h1
  obtain ⟨y4, y5⟩ := cl_k4 hy h2
  unfold F27_0 G27_0 cK
  simp only [F28_v x4 y4, F28_v x5 y5]
  cases re.ba (re.cm .eql (rk.ci xs i 0) (rk.ci ys i 0)) (re.ba (re.cm .eql (rk.ci xs i 1) (rk.ci ys i 1)) (re.ba (re.cm .eql (rk.ci xs i 2) (rk.ci ys i 2)) (re.ba (re.cm .eql (rk.ci xs i 3) (rk.ci ys i 3)) true))) with
  | false => rfl
  | true => cases eqY (rk.cl xs i 4) (rk.cl ys i 4) <;> rfl
theorem F95_v {xs ys : List R} (hx : ∀ x ∈ xs, shOK (.ag hK) x) (hy : ∀ x ∈ ys, shOK (.ag hK) x) {i : Nat} (h1 : i < xs.length) (h2 : i < ys.length) (k : Bool → Option Unit) :
    F95_0 re rk 5000 (rk.ci xs i 0) (rk.ci xs i 1) (rk.ci xs i 2) (rk.ci xs i 3) (rk.cl xs i 4) (rk.cl xs i 5) (rk.ci ys i 0) (rk.ci ys i 1) (rk.ci ys i 2) (rk.ci ys i 3) (rk.cl ys i 4) (rk.cl ys i 5) k = k (cK xs ys i) := by
  obtain ⟨x4, x5⟩ := cl_k4 hx h1
  obtain ⟨y4, y5⟩ := cl_k4 hy h2
  unfold F95_0 G95_0 cK
  simp only [F139_v x4 y4, F139_v x5 y5]
  cases re.ba (re.cm .eql (rk.ci xs i 0) (rk.ci ys i 0)) (re.ba (re.cm .eql (rk.ci xs i 1) (rk.ci ys i 1)) (re.ba (re.cm .eql (rk.ci xs i 2) (rk.ci ys i 2)) (re.ba (re.cm .eql (rk.ci xs i 3) (rk.ci ys i 3)) true))) with
  | false => rfl
  | true => cases eqY (rk.cl xs i 4) (rk.cl ys i 4) <;> rfl
theorem L26_v {xs ys : List R} (hx : ∀ x ∈ xs, shOK (.ag hK) x) (hy : ∀ x ∈ ys, shOK (.ag hK) x) (hl : ys.length = xs.length) (hn : xs.length < 100000) (k0 : List R → Bool → Option Unit) (k1 : List R → Option Unit) : ∀ (cnt j n : Nat), j + cnt = xs.length → cnt < n →
    L26_4_0 re rk 5000 n k0 k1 ys xs (re.on (re.len xs)) (j : Int) = match allB (cK xs ys) cnt j with | true => k1 ys | false => k0 ys false := by
  intro cnt
  induction cnt with
  | zero =>
    intro j n h hf
    obtain ⟨n, rfl⟩ : ∃ n', n = n' + 1 := ⟨n - 1, by omega⟩
    have hlt : re.cm .lss (j : Int) (re.on (re.len xs)) = false := decide_eq_false (by simp only [e_on, e_len]; omega)
    simp only [L26_4_0, GL26_4_0, hlt, allB]
  | succ cnt ih =>
    intro j n h hf
    obtain ⟨n, rfl⟩ : ∃ n', n = n' + 1 := ⟨n - 1, by omega⟩
    have hlt : re.cm .lss (j : Int) (re.on (re.len xs)) = true := decide_eq_true (by simp only [e_on, e_len]; omega)
    have h1 : re.ix (j : Int) (re.len xs) = some j := e_ix (by simp only [e_len]; omega)
    have h2 : re.ix (j : Int) (re.len ys) = some j := e_ix (by simp only [e_len]; omega)
    have o1 := okE_ag (hs := hK) rfl hx (show j < xs.length by omega)
    have o2 := okE_ag (hs := hK) rfl hy (show j < ys.length by omega)
    simp only [L26_4_0, GL26_4_0, hlt, h1, h2, o1, o2, F27_v hx hy (show j < xs.length by omega) (show j < ys.length by omega), e_inc (show j < 4611686018427387904 by omega), ih (j + 1) n (by omega) (by omega), allB, e_bn]
    cases cK xs ys j <;> rfl
theorem F26_v {xs ys : List R} (hx : ∀ x ∈ xs, shOK (.ag hK) x) (hy : ∀ x ∈ ys, shOK (.ag hK) x) (hn : xs.length < 5000) (k : Bool → Option Unit) : F26_0 re rk 5000 xs ys k = k (eqL (cK xs ys) xs ys) := by
  unfold F26_0 G26_0 eqL
  cases h : re.cm .neq (re.on (re.len xs)) (re.on (re.len ys)) with
  | true => rfl
  | false =>
    have hl : ys.length = xs.length := by
      have := of_decide_eq_false h
      simp only [e_on, e_len, ne_eq, Classical.not_not] at this
      omega
    refine (L26_v hx hy hl (by omega) (fun _ x => k x) (fun _ => k true) xs.length 0 5000 (by omega) (by omega)).trans ?_
    cases allB (cK xs ys) xs.length 0 <;> rfl
theorem L52_v {xs ys : List R} (hx : ∀ x ∈ xs, shOK (.ag hK) x) (hy : ∀ x ∈ ys, shOK (.ag hK) x) (hl : ys.length = xs.length) (hn : xs.length < 100000) (k0 : List R → List R → Bool → Option Unit) (k1 : List R → List R → Option Unit) : ∀ (cnt j n : Nat), j + cnt = xs.length → cnt < n →
    L52_4_0 re rk 5000 n k0 k1 xs ys (re.on (re.len xs)) (j : Int) = match allB (cK xs ys) cnt j with | true => k1 xs ys | false => k0 xs ys false := by
  intro cnt
  induction cnt with
  | zero =>
    intro j n h hf
    obtain ⟨n, rfl⟩ : ∃ n', n = n' + 1 := ⟨n - 1, by omega⟩
    have hlt : re.cm .lss (j : Int) (re.on (re.len xs)) = false := decide_eq_false (by simp only [e_on, e_len]; omega)
    simp only [L52_4_0, GL52_4_0, hlt, allB]
  | succ cnt ih =>
    intro j n h hf
    obtain ⟨n, rfl⟩ : ∃ n', n = n' + 1 := ⟨n - 1, by omega⟩
    have hlt : re.cm .lss (j : Int) (re.on (re.len xs)) = true := decide_eq_true (by simp only [e_on, e_len]; omega)
    have h1 : re.ix (j : Int) (re.len xs) = some j := e_ix (by simp only [e_len]; omega)
    have h2 : re.ix (j : Int) (re.len ys) = some j := e_ix (by simp only [e_len]; omega)
    have o1 := okE_ag (hs := hK) rfl hx (show j < xs.length by omega)
    have o2 := okE_ag (hs := hK) rfl hy (show j < ys.length by omega)
    simp only [L52_4_0, GL52_4_0, hlt, h1, h2, o1, o2, F95_v hx hy (show j < xs.length by omega) (show j < ys.length by omega), e_inc (show j < 4611686018427387904 by omega), ih (j + 1) n (by omega) (by omega), allB, e_bn]
    cases cK xs ys j <;> rfl
theorem F52_v {xs ys : List R} (hx : ∀ x ∈ xs, shOK (.ag hK) x) (hy : ∀ x ∈ ys, shOK (.ag hK) x) (hn : xs.length < 5000) (k : Bool → Option Unit) : F52_0 re rk 5000 xs ys k = k (eqL (cK xs ys) xs ys) := by
  unfold F52_0 G52_0 eqL
  cases h : re.cm .neq (re.on (re.len xs)) (re.on (re.len ys)) with
  | true => rfl
  | false =>
    have hl : ys.length = xs.length := by
      have := of_decide_eq_false h
      simp only [e_on, e_len, ne_eq, Classical.not_not] at this
      omega
    refine (L52_v hx hy hl (by omega) (fun _ _ x => k x) (fun _ _ => k true) xs.length 0 5000 (by omega) (by omega)).trans ?_
    cases allB (cK xs ys) xs.length 0 <;> rfl
end Go.Proofs.YthlnfebecphcmaaGreat
