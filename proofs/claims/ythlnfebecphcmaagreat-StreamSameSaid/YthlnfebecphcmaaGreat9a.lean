/-
  Headers: the program's and the reference's answer are the same.
-/
import Derived.Test.YthlnfebecphcmaaGreatD
set_option linter.unusedVariables false
set_option linter.unusedSimpArgs false
set_option maxRecDepth 100000
namespace Go.Proofs.YthlnfebecphcmaaGreat
open Go.Os
open Go.ChangeShapes Go.WideShapes Go.ChangeAt Go.RowKit
abbrev shC4 : List Sh := [.i .i64, .b, .i .i64, .i .i64]
theorem hdr_loop1 (a b c d tw th : Int) {l : List R} (hl : ∀ x ∈ l, shOK (.ag shC4) x) (hlen : l.length < 5000) : ∀ (cnt j n m : Nat), l.length - j = cnt → j ≤ l.length → cnt < n → cnt < m →
    ∃ r : Bool, (∀ (k0 : Int → Int → Int → Int → Int → Int → List R → Int → Option Unit) (k1 : Int → Int → Int → Int → Int → Int → List R → Option Unit), L34_4_0 re rk 5000 n k0 k1 a b c d tw th l (j : Int) = (match r with | true => k0 a b c d tw th l 12 | false => k1 a b c d tw th l)) ∧
      (∀ (k0 : Int → Int → Int → Int → Int → Int → List R → Int → Option Unit) (k1 : Int → Int → Int → Int → Int → Int → List R → Option Unit), L67_4_0 re rk 5000 m k0 k1 a b c d tw th l l (re.on (re.len l)) (j : Int) = (match r with | true => k0 a b c d tw th l 12 | false => k1 a b c d tw th l)) := by
  intro cnt
  induction cnt with
  | zero =>
    intro j n m h1 h2 hn hm
    obtain ⟨n, rfl⟩ : ∃ n', n = n' + 1 := ⟨n - 1, by omega⟩
    obtain ⟨m, rfl⟩ : ∃ n', m = n' + 1 := ⟨m - 1, by omega⟩
    have hlt : re.cm .lss (j : Int) (re.on (re.len l)) = false := decide_eq_false (by simp only [e_on, e_len]; omega)
    exact ⟨false, fun k0 k1 => by simp only [L34_4_0, GL34_4_0, hlt], fun k0 k1 => by simp only [L67_4_0, GL67_4_0, hlt]⟩
  | succ cnt ih =>
    intro j n m h1 h2 hn hm
    obtain ⟨n, rfl⟩ : ∃ n', n = n' + 1 := ⟨n - 1, by omega⟩
    obtain ⟨m, rfl⟩ : ∃ n', m = n' + 1 := ⟨m - 1, by omega⟩
    have hj : j < l.length := by omega
    have hlt : re.cm .lss (j : Int) (re.on (re.len l)) = true := decide_eq_true (by simp only [e_on, e_len]; omega)
    have hix : re.ix (j : Int) (re.len l) = some j := e_ix hj
    have hok : rk.okE shC4 true l j = true := okE_ag rfl hl hj
    have hinc : re.ar .add .i64 (j : Int) 1 = ((j + 1 : Nat) : Int) := e_inc (by omega)
    obtain ⟨p, q, r, s, h51⟩ := F58_v 5000 a b c d (rk.ci l j 2) (rk.ci l j 3)
    obtain ⟨z, z1, z2⟩ := ih (j + 1) n m (by omega) (by omega) (by omega) (by omega)
    cases c0 : v77 (rk.ci l j 0) 1 16 with
    | false => exact ⟨true, fun k0 k1 => by simp only [L34_4_0, GL34_4_0, hlt, hix, hok, F57_v, c0, e_bn, Bool.not_false], fun k0 k1 => by simp only [L67_4_0, GL67_4_0, hlt, hix, hok, F89_a, c0, e_bn, Bool.not_false]⟩
    | true =>
      cases c2 : v77 (rk.ci l j 2) 1 4 with
      | false => exact ⟨true, fun k0 k1 => by simp only [L34_4_0, GL34_4_0, hlt, hix, hok, F57_v, c0, c2, e_bn, Bool.not_false, Bool.not_true], fun k0 k1 => by simp only [L67_4_0, GL67_4_0, hlt, hix, hok, F89_a, F89_b, c0, c2, e_bn, Bool.not_false, Bool.not_true, Bool.false_and]⟩
      | true =>
        cases c3 : v77 (rk.ci l j 3) 1 4 with
        | false => exact ⟨true, fun k0 k1 => by simp only [L34_4_0, GL34_4_0, hlt, hix, hok, F57_v, c0, c2, c3, e_bn, Bool.not_false, Bool.not_true], fun k0 k1 => by simp only [L67_4_0, GL67_4_0, hlt, hix, hok, F89_a, F89_b, c0, c2, c3, e_bn, Bool.not_false, Bool.not_true, Bool.true_and]⟩
        | true =>
          cases c4 : v66 p q r s with
          | true => exact ⟨true, fun k0 k1 => by simp only [L34_4_0, GL34_4_0, hlt, hix, hok, F57_v, F56_v, h51, c0, c2, c3, c4, e_bn, Bool.not_false, Bool.not_true], fun k0 k1 => by simp only [L67_4_0, GL67_4_0, hlt, hix, hok, F89_a, F89_b, F105_eq, F104_eq, F56_v, h51, c0, c2, c3, c4, e_bn, Bool.not_false, Bool.not_true, Bool.true_and]⟩
          | false => exact ⟨z, fun k0 k1 => by simp only [L34_4_0, GL34_4_0, hlt, hix, hok, F57_v, F56_v, h51, c0, c2, c3, c4, e_bn, Bool.not_false, Bool.not_true, hinc, z1], fun k0 k1 => by simp only [L67_4_0, GL67_4_0, hlt, hix, hok, F89_a, F89_b, F105_eq, F104_eq, F56_v, h51, c0, c2, c3, c4, e_bn, Bool.not_false, Bool.not_true, Bool.true_and, hinc, z2]⟩
theorem hdr_loop2 (a b c d tw th : Int) {l : List R} (hl : ∀ x ∈ l, shOK (.ag shC4) x) (hlen : l.length < 5000) : ∀ (cnt j n m : Nat), l.length - j = cnt → j ≤ l.length → cnt < n → cnt < m →
    ∃ r : Bool, (∀ (k0 : Int → Option Unit) (k1 : Option Unit), L34_12_0 re rk 5000 n k0 k1 a b c d tw th l (j : Int) = (match r with | true => k0 5 | false => k1)) ∧
      (∀ (k0 : Int → Option Unit) (k1 : Option Unit), L67_14_0 re rk 5000 m k0 k1 a b c d tw th l l (re.on (re.len l)) (j : Int) = (match r with | true => k0 5 | false => k1)) := by
  intro cnt
  induction cnt with
  | zero =>
    intro j n m h1 h2 hn hm
    obtain ⟨n, rfl⟩ : ∃ n', n = n' + 1 := ⟨n - 1, by omega⟩
    obtain ⟨m, rfl⟩ : ∃ n', m = n' + 1 := ⟨m - 1, by omega⟩
    have hlt : re.cm .lss (j : Int) (re.on (re.len l)) = false := decide_eq_false (by simp only [e_on, e_len]; omega)
    exact ⟨false, fun k0 k1 => by simp only [L34_12_0, GL34_12_0, hlt], fun k0 k1 => by simp only [L67_14_0, GL67_14_0, hlt]⟩
  | succ cnt ih =>
    intro j n m h1 h2 hn hm
    obtain ⟨n, rfl⟩ : ∃ n', n = n' + 1 := ⟨n - 1, by omega⟩
    obtain ⟨m, rfl⟩ : ∃ n', m = n' + 1 := ⟨m - 1, by omega⟩
    have hj : j < l.length := by omega
    have hlt : re.cm .lss (j : Int) (re.on (re.len l)) = true := decide_eq_true (by simp only [e_on, e_len]; omega)
    have hix : re.ix (j : Int) (re.len l) = some j := e_ix hj
    have hok : rk.okE shC4 true l j = true := okE_ag rfl hl hj
    have hinc : re.ar .add .i64 (j : Int) 1 = ((j + 1 : Nat) : Int) := e_inc (by omega)
    obtain ⟨p, q, r, s, h51⟩ := F58_v 5000 a b c d (rk.ci l j 2) (rk.ci l j 3)
    obtain ⟨z, z1, z2⟩ := ih (j + 1) n m (by omega) (by omega) (by omega) (by omega)
    cases c0 : re.cm .gtr (v79 p q r s) 1048576 with
    | true => exact ⟨true, fun k0 k1 => by simp only [L34_12_0, GL34_12_0, hlt, hix, hok, h51, F60_v, c0], fun k0 k1 => by simp only [L67_14_0, GL67_14_0, hlt, hix, hok, F105_eq, F108_eq, h51, F60_v, c0]⟩
    | false => exact ⟨z, fun k0 k1 => by simp only [L34_12_0, GL34_12_0, hlt, hix, hok, h51, F60_v, c0, hinc, z1], fun k0 k1 => by simp only [L67_14_0, GL67_14_0, hlt, hix, hok, F105_eq, F108_eq, h51, F60_v, c0, hinc, z2]⟩
def HF (a b c d tw th : Int) (l : List R) : Prop := v65 a b c d = true ∧ v66 a b c d = false ∧ v77 tw 1 4096 = true ∧ v77 th 1 4096 = true ∧ 1 ≤ l.length ∧ l.length ≤ 4
theorem hdr (a b c d tw th : Int) {l : List R} (hl : ∀ x ∈ l, shOK (.ag shC4) x) : ∃ e : Int, (e = 0 → HF a b c d tw th l) ∧ (∀ k : Int → Option Unit, F34_0 re rk 5000 a b c d tw th l k = k e) ∧ (∀ k : Int → Option Unit, F67_0 re rk 5000 a b c d tw th l k = k e) := by
  unfold F34_0 G34_0 F67_0 G67_0
  simp only [F103_eq, F104_eq, F55_v, F56_v, F57_v, F89_b, F89_a, e_bn]
  cases hv : v65 a b c d with
  | false => exact ⟨12, (fun h => by cases h), fun k => rfl, fun k => rfl⟩
  | true => cases hv2 : v66 a b c d with
    | true => exact ⟨12, (fun h => by cases h), fun k => rfl, fun k => rfl⟩
    | false => cases h2 : v77 tw 1 4096 with
      | false => exact ⟨12, (fun h => by cases h), fun k => rfl, fun k => rfl⟩
      | true => cases h3 : v77 th 1 4096 with
        | false => exact ⟨12, (fun h => by cases h), fun k => rfl, fun k => rfl⟩
        | true => cases h4 : v77 (re.on (re.len l)) 1 4 with
          | false => exact ⟨12, (fun h => by cases h), fun k => rfl, fun k => rfl⟩
          | true =>
            have hlen : 1 ≤ l.length ∧ l.length ≤ 4 := by
              unfold v77 at h4
              simp only [e_leq, e_on, e_len, Bool.and_eq_true, decide_eq_true_eq] at h4
              omega
            have hf : HF a b c d tw th l := ⟨hv, hv2, h2, h3, hlen.1, hlen.2⟩
            obtain ⟨r, r1, r2⟩ := hdr_loop1 a b c d tw th hl (by omega) l.length 0 5000 5000 (by omega) (by omega) (by omega) (by omega)
            have r1' : ∀ k0 k1, L34_4_0 re rk 5000 5000 k0 k1 a b c d tw th l 0 = _ := r1
            have r2' : ∀ k0 k1, L67_4_0 re rk 5000 5000 k0 k1 a b c d tw th l l (re.on (re.len l)) 0 = _ := r2
            simp only [r1', r2', Bool.not_true, Bool.true_and, Bool.and_true]
            cases r with
            | true => exact ⟨12, (fun h => by cases h), fun k => rfl, fun k => rfl⟩
            | false =>
              unfold F59_0 G59_0
              simp only [F106_eq, F107_eq, F96_v, F97_v]
              cases re.cm .gtr (re.ar .mul .i64 (re.ar .sub .i64 (v80 c tw) (v105 a tw)) (re.ar .sub .i64 (v80 d th) (v105 b th))) 1024 with
              | true => exact ⟨5, (fun h => by cases h), fun k => rfl, fun k => rfl⟩
              | false =>
                obtain ⟨r, r1, r2⟩ := hdr_loop2 a b c d tw th hl (by omega) l.length 0 5000 5000 (by omega) (by omega) (by omega) (by omega)
                have r1' : ∀ k0 k1, L34_12_0 re rk 5000 5000 k0 k1 a b c d tw th l 0 = _ := r1
                have r2' : ∀ k0 k1, L67_14_0 re rk 5000 5000 k0 k1 a b c d tw th l l (re.on (re.len l)) 0 = _ := r2
                simp only [r1', r2']
                cases r with
                | true => exact ⟨5, (fun h => by cases h), fun k => rfl, fun k => rfl⟩
                | false => exact ⟨0, fun _ => hf, fun k => rfl, fun k => rfl⟩
theorem F98_v (N : Nat) (a b c d e f g h : Int) : ∃ p q r s : Int, ∀ k : Int → Int → Int → Int → Option Unit, F98_0 re rk N a b c d e f g h k = k p q r s := by
  unfold F98_0 G98_0
  simp only [F56_v]
  cases v66 (re.mx a e) (re.mx b f) (re.mn c g) (re.mn d h) with
  | true => exact ⟨_, _, _, _, fun k => rfl⟩
  | false => exact ⟨_, _, _, _, fun k => rfl⟩
theorem F109_eq {β : Type} (N : Nat) : @F109_0 β re rk N = @F98_0 β re rk N := rfl
theorem e_inc' {x : Int} (h : 0 ≤ x) (h' : x ≤ 4097) : re.ar .add .i64 x 1 = x + 1 := by
  show IntKind.wrap .i64 (x + 1) = x + 1
  rw [wrap64 (by omega) (by omega)]
theorem W_sh (x q : Int) : IntKind.wrap .i64 (x + 18446744073709551616 * q) = IntKind.wrap .i64 x := by
  unfold IntKind.wrap
  simp [IntKind.bits, IntKind.signed]
theorem W_ex (x : Int) : ∃ q : Int, IntKind.wrap .i64 x = x + 18446744073709551616 * q := by
  refine ⟨-((x + 9223372036854775808) / 18446744073709551616), ?_⟩
  unfold IntKind.wrap
  simp [IntKind.bits, IntKind.signed]
  omega
theorem W_add (x y : Int) : IntKind.wrap .i64 (IntKind.wrap .i64 x + y) = IntKind.wrap .i64 (x + y) := by
  obtain ⟨q, hq⟩ := W_ex x
  rw [hq, show x + 18446744073709551616 * q + y = x + y + 18446744073709551616 * q by omega, W_sh]
theorem W_add' (x y : Int) : IntKind.wrap .i64 (x + IntKind.wrap .i64 y) = IntKind.wrap .i64 (x + y) := by
  rw [Int.add_comm, W_add, Int.add_comm]
theorem W_mul (x y : Int) : IntKind.wrap .i64 (IntKind.wrap .i64 x * y) = IntKind.wrap .i64 (x * y) := by
  obtain ⟨q, hq⟩ := W_ex x
  rw [hq, Int.add_mul, Int.mul_assoc, W_sh]
theorem mulw (i w : Int) : re.ar .mul .i64 (re.ar .add .i64 i 1) w = re.ar .add .i64 (re.ar .mul .i64 i w) w := by
  show IntKind.wrap .i64 (IntKind.wrap .i64 (i + 1) * w) = IntKind.wrap .i64 (IntKind.wrap .i64 (i * w) + w)
  rw [W_mul, W_add, Int.add_mul, Int.one_mul]
theorem small_ok {n : Nat} (h : n ≤ 1000000000) : re.small n 32 = true := by
  show decide (n ≤ 70368744177664 ∧ n * 32 ≤ 70368744177664) = true
  exact decide_eq_true ⟨by omega, by omega⟩
def isR (x : R) : Prop := ∃ p q r s : Int, x = R.a [R.i .i64 p, R.i .i64 q, R.i .i64 r, R.i .i64 s]
theorem isR_ok {l : List R} (hl : ∀ x ∈ l, isR x) {i : Nat} (hi : i < l.length) : rk.okC [.i .i64, .i .i64, .i .i64, .i .i64] l i 0 = true := by
  obtain ⟨p, q, r, s, hx⟩ := hl l[i] (List.getElem_mem hi)
  show (match l[i]? with | some x => _ | none => false) = true
  rw [List.getElem?_eq_getElem hi, hx]
  rfl
theorem isR_app {l : List R} (hl : ∀ x ∈ l, isR x) (p q r s : Int) : ∀ x ∈ re.app l [R.a [R.i .i64 p, R.i .i64 q, R.i .i64 r, R.i .i64 s]], isR x := by
  intro x hx
  rcases List.mem_append.1 hx with h | h
  · exact hl x h
  · rw [List.mem_singleton.1 h]; exact ⟨p, q, r, s, rfl⟩
theorem row_loop (w h a b c d left right bottom jj : Int) (hr : right ≤ 4097) : ∀ (cnt n m : Nat) (l : List R) (i : Int), (∀ x ∈ l, isR x) → 0 ≤ i → (right - i).toNat = cnt → cnt < n → cnt < m → l.length + cnt ≤ 1000000000 →
    ∃ (l' : List R), (∀ x ∈ l', isR x) ∧ l'.length ≤ l.length + cnt ∧ (∀ (k0 : Int → Int → Int → Int → Int → Int → Int → Int → Int → List R → Int → Option Unit), L61_14_0 re rk 5000 n k0 w h a b c d left right bottom l jj i = k0 w h a b c d left right bottom l' jj) ∧
      (∀ (k0 : Int → Int → Int → Int → Int → Int → Int → Int → Int → List R → Int → Option Unit), L68_12_0 re rk 5000 m k0 w h a b c d left right bottom l jj i = k0 w h a b c d left right bottom l' jj) := by
  intro cnt
  induction cnt with
  | zero =>
    intro n m l i hl0 hi hc hn hm hl
    obtain ⟨n, rfl⟩ : ∃ n', n = n' + 1 := ⟨n - 1, by omega⟩
    obtain ⟨m, rfl⟩ : ∃ n', m = n' + 1 := ⟨m - 1, by omega⟩
    have hlt : re.cm .lss i right = false := decide_eq_false (by omega)
    exact ⟨l, hl0, by omega, fun k0 => by simp only [L61_14_0, GL61_14_0, hlt], fun k0 => by simp only [L68_12_0, GL68_12_0, hlt]⟩
  | succ cnt ih =>
    intro n m l i hl0 hi hc hn hm hl
    obtain ⟨n, rfl⟩ : ∃ n', n = n' + 1 := ⟨n - 1, by omega⟩
    obtain ⟨m, rfl⟩ : ∃ n', m = n' + 1 := ⟨m - 1, by omega⟩
    have hlt : re.cm .lss i right = true := decide_eq_true (by omega)
    obtain ⟨p, q, r, s, h64⟩ := F98_v 5000 a b c d (re.ar .mul .i64 i w) (re.ar .mul .i64 jj h) (re.ar .add .i64 (re.ar .mul .i64 i w) w) (re.ar .add .i64 (re.ar .mul .i64 jj h) h)
    have hlen : (re.app l [R.a [R.i .i64 p, R.i .i64 q, R.i .i64 r, R.i .i64 s]]).length = l.length + 1 := by simp [re]
    have hs : re.small (re.len (re.app l [R.a [R.i .i64 p, R.i .i64 q, R.i .i64 r, R.i .i64 s]])) 32 = true := small_ok (by rw [e_len, hlen]; omega)
    obtain ⟨l', h0, h1, h2, h3⟩ := ih n m (re.app l [R.a [R.i .i64 p, R.i .i64 q, R.i .i64 r, R.i .i64 s]]) (i + 1) (isR_app hl0 p q r s) (by omega) (by omega) (by omega) (by omega) (by rw [hlen]; omega)
    exact ⟨l', h0, by rw [hlen] at h1; omega, fun k0 => by simp only [L61_14_0, GL61_14_0, hlt, h64, hs, e_inc' hi (show i ≤ 4097 by omega), h2],
      fun k0 => by
        simp only [L68_12_0, GL68_12_0, hlt, F109_eq, mulw, h64, hs]
        simp only [e_inc' hi (show i ≤ 4097 by omega), h3]⟩
theorem col_loop (w h a b c d left right bottom : Int) (hl0 : 0 ≤ left) (hr : right ≤ 4097) (hb : bottom ≤ 4097) : ∀ (cnt n m : Nat) (l : List R) (j : Int), (∀ x ∈ l, isR x) → 0 ≤ j → (bottom - j).toNat = cnt → cnt < n → cnt < m → l.length + cnt * 4097 ≤ 1000000000 →
    ∃ l' : List R, (∀ x ∈ l', isR x) ∧ (∀ (k0 : Int → Int → List R → Option Unit), L61_11_0 re rk 5000 n k0 w h a b c d left right bottom l j = k0 w h l') ∧
      (∀ (k0 : Int → Int → List R → Option Unit), L68_9_0 re rk 5000 m k0 w h a b c d left right bottom l j = k0 w h l') := by
  intro cnt
  induction cnt with
  | zero =>
    intro n m l j hp hj hc hn hm hl
    obtain ⟨n, rfl⟩ : ∃ n', n = n' + 1 := ⟨n - 1, by omega⟩
    obtain ⟨m, rfl⟩ : ∃ n', m = n' + 1 := ⟨m - 1, by omega⟩
    have hlt : re.cm .lss j bottom = false := decide_eq_false (by omega)
    exact ⟨l, hp, fun k0 => by simp only [L61_11_0, GL61_11_0, hlt], fun k0 => by simp only [L68_9_0, GL68_9_0, hlt]⟩
  | succ cnt ih =>
    intro n m l j hp hj hc hn hm hl
    obtain ⟨n, rfl⟩ : ∃ n', n = n' + 1 := ⟨n - 1, by omega⟩
    obtain ⟨m, rfl⟩ : ∃ n', m = n' + 1 := ⟨m - 1, by omega⟩
    have hlt : re.cm .lss j bottom = true := decide_eq_true (by omega)
    obtain ⟨l1, h0, h1, h2, h2'⟩ := row_loop w h a b c d left right bottom j hr (right - left).toNat 5000 5000 l left hp hl0 rfl (by omega) (by omega) (by omega)
    obtain ⟨l', h3, h4, h5⟩ := ih n m l1 (j + 1) h0 (by omega) (by omega) (by omega) (by omega) (by omega)
    exact ⟨l', h3, fun k0 => by simp only [L61_11_0, GL61_11_0, hlt, h2, e_inc' hj (show j ≤ 4097 by omega), h4],
      fun k0 => by simp only [L68_9_0, GL68_9_0, hlt, h2', e_inc' hj (show j ≤ 4097 by omega), h5]⟩
theorem v65_in {a b c d : Int} (h : v65 a b c d = true) : 0 ≤ a ∧ a ≤ 4096 ∧ 0 ≤ b ∧ b ≤ 4096 ∧ c ≤ 4096 ∧ d ≤ 4096 ∧ 0 ≤ c ∧ 0 ≤ d := by
  unfold v65 at h
  simp only [e_leq, Bool.and_eq_true, decide_eq_true_eq] at h
  omega
theorem nil_isR : ∀ x ∈ ([] : List R), isR x := fun x h => by cases h
theorem cells (a b c d w h : Int) : ∃ l : List R, (∀ x ∈ l, isR x) ∧ (∀ k : List R → Option Unit, F61_0 re rk 5000 a b c d w h k = k l) ∧ (∀ k : List R → Option Unit, F68_0 re rk 5000 a b c d w h k = k l) := by
  unfold F61_0 G61_0 F68_0 G68_0
  simp only [F103_eq, F104_eq, F106_eq, F107_eq, F55_v, F56_v, F96_v, F97_v, e_bn]
  cases hv : v65 a b c d with
  | false => exact ⟨[], nil_isR, fun k => rfl, fun k => rfl⟩
  | true => cases v66 a b c d with
    | true => exact ⟨[], nil_isR, fun k => rfl, fun k => rfl⟩
    | false => cases hw : re.cm .lss w 1 with
      | true => exact ⟨[], nil_isR, fun k => rfl, fun k => rfl⟩
      | false => cases hh : re.cm .lss h 1 with
        | true => exact ⟨[], nil_isR, fun k => rfl, fun k => rfl⟩
        | false => cases re.cm .gtr (re.ar .mul .i64 (re.ar .sub .i64 (v80 c w) (v105 a w)) (re.ar .sub .i64 (v80 d h) (v105 b h))) 65536 with
          | true => exact ⟨[], nil_isR, fun k => rfl, fun k => rfl⟩
          | false =>
            obtain ⟨h1, h2, h3, h4, h5, h6, h7, h8⟩ := v65_in hv
            have a1 := v80_le h7 h5 hw
            have a2 := v80_le h8 h6 hh
            have a3 := v105_ge h1 h2 hw
            have a4 := v105_ge h3 h4 hh
            obtain ⟨l, hp, hl, hl'⟩ := col_loop w h a b c d (v105 a w) (v80 c w) (v80 d h) a3 a1 a2 (v80 d h - v105 b h).toNat 5000 5000 [] (v105 b h) nil_isR a4 rfl (by omega) (by omega) (by simp only [List.length_nil]; omega)
            exact ⟨l, hp, fun k => by simp only [Bool.not_true, hl], fun k => by simp only [Bool.not_true, hl']⟩
theorem tiles (a b c d w h : Int) {cs : List R} {l : List R} (h1 : ∀ k : Int → Option Unit, F34_0 re rk 5000 a b c d w h cs k = k 0) (h2 : ∀ k : List R → Option Unit, F61_0 re rk 5000 a b c d w h k = k l) : ∀ k : List R → Option Unit, F36_0 re rk 5000 a b c d w h cs k = k l := by
  intro k
  unfold F36_0 G36_0
  simp only [h1, h2]
  rfl
end Go.Proofs.YthlnfebecphcmaaGreat
