/-
  Planes, cropped: the program's and the reference's answer are the same.
-/
import Derived.Test.YtcapaihnachkhaaEa
set_option linter.unusedVariables false
set_option linter.unusedSimpArgs false
set_option maxRecDepth 100000
namespace Go.Proofs.Ytcapaihnachkhaa
open Go.Os
open Go.ChangeShapes Go.WideShapes Go.ChangeAt Go.RowKit
theorem small_le {n b : Nat} (hb : b ≤ 64) (h : n ≤ 1000000000) : re.small n b = true := by
  show decide (n ≤ 70368744177664 ∧ n * b ≤ 70368744177664) = true
  refine decide_eq_true ⟨by omega, ?_⟩
  have : n * b ≤ n * 64 := Nat.mul_le_mul_left n hb
  omega
theorem v65_on {a b c d : Int} (h : v65 a b c d = true) : 0 ≤ a ∧ a ≤ c ∧ c ≤ 4096 ∧ 0 ≤ b ∧ b ≤ d ∧ d ≤ 4096 := by
  unfold v65 at h
  simp only [e_leq, Bool.and_eq_true, decide_eq_true_eq] at h
  omega
theorem v66_f {a b c d : Int} (h : v66 a b c d = false) : a < c ∧ b < d := by
  unfold v66 at h
  simp only [e_geq, Bool.or_eq_false_iff, decide_eq_false_iff_not] at h
  omega
theorem elem_i {l : List R} (hl : ∀ x ∈ l, shOK (.i .i64) x) {i : Nat} (hi : i < l.length) : l[i]? = some (R.i .i64 (rk.ci l i 0)) := by
  obtain ⟨v, hx, _⟩ := hl l[i] (List.getElem_mem hi)
  have e : rk.ci l i 0 = v := by
    show rci (cellOf l i 0) = v
    unfold cellOf
    rw [List.getElem?_eq_getElem hi, hx]
    rfl
  rw [e, List.getElem?_eq_getElem hi, hx]
theorem drop_take {l : List R} (hl : ∀ x ∈ l, shOK (.i .i64) x) {i m : Nat} (hi : i < l.length) : (l.drop i).take (m + 1) = R.i .i64 (rk.ci l i 0) :: (l.drop (i + 1)).take m := by
  have h := elem_i hl hi
  rw [List.drop_eq_getElem_cons hi, List.take_succ_cons]
  rw [List.getElem?_eq_getElem hi] at h
  rw [Option.some.inj h]
def at' (a b c x y : Int) : Int := (y - b) * (c - a) + x - a
theorem prod_le {u v : Int} (h1 : 0 ≤ u) (h2 : u ≤ 4096) (h3 : 0 ≤ v) (h4 : v ≤ 4096) : 0 ≤ u * v ∧ u * v ≤ 16777216 := by
  refine ⟨Int.mul_nonneg h1 h3, ?_⟩
  have := Int.mul_le_mul h2 h4 h3 (show (0 : Int) ≤ 4096 by omega)
  omega
theorem at_v {a b c x y : Int} (h1 : 0 ≤ a) (h2 : a ≤ c) (h3 : c ≤ 4096) (h4 : 0 ≤ b) (h5 : b ≤ y) (h6 : y ≤ 4096) (h7 : 0 ≤ x) (h8 : x ≤ 4096) :
    re.ar .sub .i64 (re.ar .add .i64 (re.ar .mul .i64 (re.ar .sub .i64 y b) (re.ar .sub .i64 c a)) x) a = at' a b c x y := by
  obtain ⟨p1, p2⟩ := prod_le (u := y - b) (v := c - a) (by omega) (by omega) (by omega) (by omega)
  rw [show re.ar .sub .i64 y b = y - b from wrap64 (by omega) (by omega), show re.ar .sub .i64 c a = c - a from wrap64 (by omega) (by omega),
    show re.ar .mul .i64 (y - b) (c - a) = (y - b) * (c - a) from wrap64 (by omega) (by omega)]
  unfold at'
  generalize (y - b) * (c - a) = m at p1 p2 ⊢
  rw [show re.ar .add .i64 m x = m + x from wrap64 (by omega) (by omega)]
  exact wrap64 (by omega) (by omega)
structure PL (a b c d : Int) (l : List R) : Prop where
  v : v65 a b c d = true
  len : (l.length : Int) = (c - a) * (d - b)
  el : ∀ x ∈ l, shOK (.i .i64) x
theorem at_in {a b c d : Int} {l : List R} (h : PL a b c d l) {x y : Int} (h1 : a ≤ x) (h2 : x < c) (h3 : b ≤ y) (h4 : y < d) : 0 ≤ at' a b c x y ∧ at' a b c x y + (c - x) ≤ l.length := by
  obtain ⟨v1, v2, v3, v4, v5, v6⟩ := v65_on h.v
  have h5 : (y - b + 1) * (c - a) ≤ (d - b) * (c - a) := Int.mul_le_mul_of_nonneg_right (by omega) (by omega)
  have h6 : 0 ≤ (y - b) * (c - a) := Int.mul_nonneg (by omega) (by omega)
  have h7 := h.len
  rw [Int.mul_comm] at h7
  rw [Int.add_mul, Int.one_mul] at h5
  unfold at'
  omega
def row (l : List R) (a b c p s y : Int) : List R := (l.drop (at' a b c p y).toNat).take (s - p).toNat
theorem row_len {a b c d : Int} {l : List R} (h : PL a b c d l) {p s y : Int} (h1 : a ≤ p) (h0 : p < s) (h2 : s ≤ c) (h3 : b ≤ y) (h4 : y < d) : (row l a b c p s y).length = (s - p).toNat := by
  obtain ⟨i1, i2⟩ := at_in h (x := p) h1 (by omega) h3 h4
  unfold row
  rw [List.length_take, List.length_drop]
  omega
def rows (l : List R) (a b c p s : Int) : Nat → Int → List R
  | 0, _ => []
  | n + 1, y => row l a b c p s y ++ rows l a b c p s n (y + 1)
theorem get_v {a b c d : Int} {l : List R} (h : PL a b c d l) {x y : Int} (h1 : a ≤ x) (h2 : x < c) (h3 : b ≤ y) (h4 : y < d) (k : Int → Option Unit) : F103_0 re rk 5000 a b c d l x y k = k (rk.ci l (at' a b c x y).toNat 0) := by
  obtain ⟨v1, v2, v3, v4, v5, v6⟩ := v65_on h.v
  obtain ⟨i1, i2⟩ := at_in h h1 h2 h3 h4
  have e1 := at_v (x := x) v1 v2 v3 v4 h3 (show y ≤ 4096 by omega) (show 0 ≤ x by omega) (show x ≤ 4096 by omega)
  obtain ⟨n, hn⟩ : ∃ n : Nat, at' a b c x y = n := ⟨(at' a b c x y).toNat, by omega⟩
  have hlt : n < l.length := by omega
  have hix : re.ix (n : Int) (re.len l) = some n := e_ix hlt
  have hok : rk.okE [.i .i64] false l n = true := okE_1 rfl h.el hlt
  unfold F103_0 G103_0
  simp only [e1, hn, hix, hok, Int.toNat_natCast]
theorem at_s (a b c x y : Int) : at' a b c (x + 1) y = at' a b c x y + 1 := by unfold at'; omega
theorem ref_row {a b c d : Int} {l : List R} (h : PL a b c d l) (z1 z2 z3 z4 p q s t o1 o2 o3 o4 y : Int) (h2 : s ≤ c) (h3 : b ≤ y) (h4 : y < d) : ∀ (cnt n : Nat) (x : Int) (acc : List R), a ≤ x → (s - x).toNat = cnt → cnt < n → acc.length + cnt ≤ 1000000000 →
    ∀ (k0 : Int → Int → Int → Int → List R → Int → Int → Int → Int → Int → Int → Int → Int → Int → Int → Int → Int → Int → Option Unit) (k1 : Int → Int → Int → Int → List R → Int → Int → Int → Int → Int → Int → Int → Int → Int → Int → Int → Int → Int → List R → Option Unit), L70_10_1 re rk 5000 n k0 k1 a b c d l p q s t z1 z2 z3 z4 o1 o2 o3 o4 y x acc = k1 a b c d l p q s t z1 z2 z3 z4 o1 o2 o3 o4 y (acc ++ (l.drop (at' a b c x y).toNat).take cnt) := by
  intro cnt
  induction cnt with
  | zero =>
    intro n x acc hx hc hn hl k0 k1
    obtain ⟨n, rfl⟩ : ∃ n', n = n' + 1 := ⟨n - 1, by omega⟩
    have hlt : re.cm .lss x s = false := decide_eq_false (by omega)
    simp only [L70_10_1, GL70_10_1, hlt, List.take_zero, List.append_nil]
  | succ cnt ih =>
    intro n x acc hx hc hn hl k0 k1
    obtain ⟨n, rfl⟩ : ∃ n', n = n' + 1 := ⟨n - 1, by omega⟩
    have hlt : re.cm .lss x s = true := decide_eq_true (by omega)
    obtain ⟨v1, v2, v3, v4, v5, v6⟩ := v65_on h.v
    obtain ⟨i1, i2⟩ := at_in h hx (show x < c by omega) h3 h4
    have hlen : (re.app acc [R.i .i64 (rk.ci l (at' a b c x y).toNat 0)]).length = acc.length + 1 := by simp [re]
    have hs : re.small (re.len (re.app acc [R.i .i64 (rk.ci l (at' a b c x y).toNat 0)])) 8 = true := small_le (by omega) (by rw [e_len, hlen]; omega)
    have hdt := drop_take h.el (i := (at' a b c x y).toNat) (m := cnt) (by omega)
    have e2 : (at' a b c (x + 1) y).toNat = (at' a b c x y).toNat + 1 := by rw [at_s]; omega
    simp only [L70_10_1, GL70_10_1, hlt, get_v h hx (show x < c by omega) h3 h4, hs, e_inc' (show 0 ≤ x by omega) (show x ≤ 4097 by omega)]
    rw [ih n (x + 1) _ (by omega) (by omega) (by omega) (by rw [hlen]; omega), e2, hdt]
    show k1 a b c d l p q s t z1 z2 z3 z4 o1 o2 o3 o4 y ((acc ++ [_]) ++ _) = _
    rw [List.append_assoc, List.singleton_append]
end Go.Proofs.Ytcapaihnachkhaa
