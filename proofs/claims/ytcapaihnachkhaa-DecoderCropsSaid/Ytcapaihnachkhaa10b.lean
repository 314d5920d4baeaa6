/-
  Planes, cropped: rows.
-/
import Derived.Test.Ytcapaihnachkhaa10a
set_option linter.unusedVariables false
set_option linter.unusedSimpArgs false
set_option maxRecDepth 100000
namespace Go.Proofs.Ytcapaihnachkhaa
open Go.Os
open Go.ChangeShapes Go.WideShapes Go.ChangeAt Go.RowKit
theorem ref_rows {a b c d : Int} {l : List R} (h : PL a b c d l) (z1 z2 z3 z4 p q s t o1 o2 o3 o4 : Int) (h1 : a ≤ p) (h0 : p < s) (h2 : s ≤ c) (h4 : t ≤ d) : ∀ (cnt n : Nat) (y : Int) (acc : List R), b ≤ y → (t - y).toNat = cnt → cnt < n → acc.length + cnt * 4097 ≤ 1000000000 →
    ∀ (k0 : Int → Int → Int → Int → Int → Int → Int → Int → Option Unit) (k1 : Int → Int → Int → Int → Int → Int → Int → Int → List R → Option Unit), L70_7_1 re rk 5000 n k0 k1 a b c d l p q s t z1 z2 z3 z4 o1 o2 o3 o4 y acc = k1 z1 z2 z3 z4 o1 o2 o3 o4 (acc ++ rows l a b c p s cnt y) := by
  intro cnt
  induction cnt with
  | zero =>
    intro n y acc hy hc hn hl k0 k1
    obtain ⟨n, rfl⟩ : ∃ n', n = n' + 1 := ⟨n - 1, by omega⟩
    have hlt : re.cm .lss y t = false := decide_eq_false (by omega)
    simp only [L70_7_1, GL70_7_1, hlt, rows, List.append_nil]
  | succ cnt ih =>
    intro n y acc hy hc hn hl k0 k1
    obtain ⟨n, rfl⟩ : ∃ n', n = n' + 1 := ⟨n - 1, by omega⟩
    have hlt : re.cm .lss y t = true := decide_eq_true (by omega)
    obtain ⟨v1, v2, v3, v4, v5, v6⟩ := v65_on h.v
    have hrl := row_len h h1 h0 h2 hy (show y < d by omega)
    simp only [L70_7_1, GL70_7_1, hlt]
    rw [ref_row h z1 z2 z3 z4 p q s t o1 o2 o3 o4 y h2 hy (show y < d by omega) (s - p).toNat 5000 p acc h1 rfl (by omega) (by omega)]
    simp only [e_inc' (show 0 ≤ y by omega) (show y ≤ 4097 by omega)]
    have e : acc ++ (l.drop (at' a b c p y).toNat).take (s - p).toNat = acc ++ row l a b c p s y := rfl
    rw [e, ih n (y + 1) _ (by omega) (by omega) (by omega) (by rw [List.length_append, hrl]; omega), rows, List.append_assoc]
theorem L70_10_u (k0 : Int → Int → Int → Int → List R → Int → Int → Int → Int → Int → Int → Int → Int → Int → Int → Int → Int → Int → Option Unit) (k1 : Int → Int → Int → Int → List R → Int → Int → Int → Int → Int → Int → Int → Int → Int → Int → Int → Int → Int → List R → Option Unit) (a b c d : Int) (l : List R) (p q s t z1 z2 z3 z4 o1 o2 o3 o4 y x : Int) : L70_10_0 re rk 5000 5000 k0 k1 a b c d l p q s t z1 z2 z3 z4 o1 o2 o3 o4 y x = GL70_10_0 re rk (F103_0 re rk 5000) (L70_10_0 re rk 5000 4999) (L70_10_1 re rk 5000 4999) k0 k1 a b c d l p q s t z1 z2 z3 z4 o1 o2 o3 o4 y x := by kernel_rfl
theorem L70_7_u (k0 : Int → Int → Int → Int → Int → Int → Int → Int → Option Unit) (k1 : Int → Int → Int → Int → Int → Int → Int → Int → List R → Option Unit) (a b c d : Int) (l : List R) (p q s t z1 z2 z3 z4 o1 o2 o3 o4 y : Int) : L70_7_0 re rk 5000 5000 k0 k1 a b c d l p q s t z1 z2 z3 z4 o1 o2 o3 o4 y = GL70_7_0 re rk (L70_10_0 re rk 5000 5000) (L70_10_1 re rk 5000 5000) (L70_7_0 re rk 5000 4999) (L70_7_1 re rk 5000 4999) k0 k1 a b c d l p q s t z1 z2 z3 z4 o1 o2 o3 o4 y := by kernel_rfl
theorem ref_all {a b c d : Int} {l : List R} (h : PL a b c d l) (z1 z2 z3 z4 p q s t o1 o2 o3 o4 : Int) (h1 : a ≤ p) (h0 : p < s) (h2 : s ≤ c) (h3 : b ≤ q) (h0' : q < t) (h4 : t ≤ d) (k0 : Int → Int → Int → Int → Int → Int → Int → Int → Option Unit) (k1 : Int → Int → Int → Int → Int → Int → Int → Int → List R → Option Unit) :
    L70_7_0 re rk 5000 5000 k0 k1 a b c d l p q s t z1 z2 z3 z4 o1 o2 o3 o4 q = k1 z1 z2 z3 z4 o1 o2 o3 o4 (rows l a b c p s (t - q).toNat q) := by
  obtain ⟨v1, v2, v3, v4, v5, v6⟩ := v65_on h.v
  obtain ⟨i1, i2⟩ := at_in h (x := p) (y := q) h1 (by omega) h3 (by omega)
  have hlt : re.cm .lss q t = true := decide_eq_true h0'
  have hlt2 : re.cm .lss p s = true := decide_eq_true h0
  have hs : re.small (re.len [R.i .i64 (rk.ci l (at' a b c p q).toNat 0)]) 8 = true := rfl
  have e2 : (at' a b c (p + 1) q).toNat = (at' a b c p q).toNat + 1 := by rw [at_s]; omega
  obtain ⟨m, hm⟩ : ∃ m : Nat, (s - p).toNat = m + 1 := ⟨(s - p).toNat - 1, by omega⟩
  obtain ⟨m2, hm2⟩ : ∃ m : Nat, (t - q).toNat = m + 1 := ⟨(t - q).toNat - 1, by omega⟩
  have hdt := drop_take h.el (i := (at' a b c p q).toNat) (m := m) (by omega)
  have hrow : [R.i .i64 (rk.ci l (at' a b c p q).toNat 0)] ++ (l.drop ((at' a b c p q).toNat + 1)).take m = row l a b c p s q := by
    unfold row
    rw [hm, hdt]; rfl
  have hrl := row_len h h1 h0 h2 h3 (show q < d by omega)
  simp only [L70_7_u, GL70_7_0, hlt, L70_10_u, GL70_10_0, hlt2, get_v h h1 (show p < c by omega) h3 (show q < d by omega), hs, e_inc' (show 0 ≤ p by omega) (show p ≤ 4097 by omega)]
  rw [ref_row h z1 z2 z3 z4 p q s t o1 o2 o3 o4 q h2 h3 (show q < d by omega) m 4999 (p + 1) _ (by omega) (by omega) (by omega) (by simp only [List.length_singleton]; omega), e2, hrow]
  simp only [e_inc' (show 0 ≤ q by omega) (show q ≤ 4097 by omega)]
  rw [ref_rows h z1 z2 z3 z4 p q s t o1 o2 o3 o4 h1 h0 h2 h4 m2 4999 (q + 1) _ (by omega) (by omega) (by omega) (by rw [hrl]; omega), hm2, rows]
theorem F121_v (N : Nat) (a b c d : Int) (l : List R) (k : Int → Option Unit) : F121_0 re rk N a b c d l k = k (re.ar .sub .i64 c a) := rfl
theorem e_sx {n j : Nat} (h : j ≤ n) : re.sx (j : Int) n = some j := by
  show (if 0 ≤ (j : Int) ∧ (j : Int) ≤ (n : Int) then some (j : Int).toNat else none) = some j
  rw [if_pos (by omega)]; rfl
theorem part_rows {a b c d : Int} {l : List R} (h : PL a b c d l) (e1 e2 e3 e4 p q s t : Int) (h1 : a ≤ p) (h0 : p < s) (h2 : s ≤ c) (h3 : b ≤ q) (h4 : t ≤ d) (zz : R) : ∀ (cnt n : Nat) (y : Int) (pre : List R), q ≤ y → (t - y).toNat = cnt → y ≤ t → cnt < n → pre.length = (at' p q s p y).toNat →
    ∀ (k0 : Int → Int → Int → Int → List R → Option Unit), L101_2_0 re rk 5000 n k0 e1 e2 e3 e4 (pre ++ List.replicate (cnt * (s - p).toNat) zz) p q s t a b c d l p q s t y = k0 e1 e2 e3 e4 (pre ++ rows l a b c p s cnt y) := by
  intro cnt
  induction cnt with
  | zero =>
    intro n y pre hy hc hyt hn hp k0
    obtain ⟨n, rfl⟩ : ∃ n', n = n' + 1 := ⟨n - 1, by omega⟩
    have hlt : re.cm .lss y t = false := decide_eq_false (by omega)
    simp only [L101_2_0, GL101_2_0, hlt, rows, Nat.zero_mul, List.replicate_zero, List.append_nil]
  | succ cnt ih =>
    intro n y pre hy hc hyt hn hp k0
    obtain ⟨n, rfl⟩ : ∃ n', n = n' + 1 := ⟨n - 1, by omega⟩
    have hlt : re.cm .lss y t = true := decide_eq_true (by omega)
    obtain ⟨v1, v2, v3, v4, v5, v6⟩ := v65_on h.v
    obtain ⟨i1, i2⟩ := at_in h (x := p) (y := y) h1 (by omega) (by omega) (show y < d by omega)
    have hrl := row_len h h1 h0 h2 (show b ≤ y by omega) (show y < d by omega)
    have a1 := at_v (a := p) (b := q) (c := s) (x := p) (y := y) (by omega) (by omega) (by omega) (by omega) hy (by omega) (by omega) (by omega)
    have a2 := at_v (a := a) (b := b) (c := c) (x := p) (y := y) v1 v2 v3 v4 (by omega) (by omega) (by omega) (by omega)
    obtain ⟨m1, m2⟩ := prod_le (u := y - q) (v := s - p) (by omega) (by omega) (by omega) (by omega)
    have hat : at' p q s p y = (y - q) * (s - p) := by unfold at'; omega
    have hat' : at' p q s p (y + 1) = (y - q) * (s - p) + (s - p) := by
      unfold at'
      rw [show y + 1 - q = y - q + 1 by omega, Int.add_mul, Int.one_mul]; omega
    obtain ⟨wn, hw⟩ : ∃ wn : Nat, s - p = wn := ⟨(s - p).toNat, by omega⟩
    obtain ⟨tn, ht⟩ : ∃ tn : Nat, at' p q s p y = tn := ⟨(at' p q s p y).toNat, by omega⟩
    obtain ⟨fn, hfn⟩ : ∃ fn : Nat, at' a b c p y = fn := ⟨(at' a b c p y).toNat, by omega⟩
    have hwn : (s - p).toNat = wn := by omega
    have hpl : pre.length = tn := by rw [hp, ht]; rfl
    rw [hwn] at hrl
    have b1 : re.ar .sub .i64 (re.ar .add .i64 (at' p q s p y) s) p = ((tn + wn : Nat) : Int) := by
      rw [show re.ar .add .i64 (at' p q s p y) s = at' p q s p y + s from wrap64 (by omega) (by omega)]
      rw [show re.ar .sub .i64 (at' p q s p y + s) p = at' p q s p y + s - p from wrap64 (by omega) (by omega)]
      omega
    have b2 : re.ar .sub .i64 (re.ar .add .i64 (at' a b c p y) s) p = ((fn + wn : Nat) : Int) := by
      have hll : at' a b c p y ≤ 16777216 + 8192 := by
        obtain ⟨m3, m4⟩ := prod_le (u := y - b) (v := c - a) (by omega) (by omega) (by omega) (by omega)
        unfold at'; omega
      rw [show re.ar .add .i64 (at' a b c p y) s = at' a b c p y + s from wrap64 (by omega) (by omega)]
      rw [show re.ar .sub .i64 (at' a b c p y + s) p = at' a b c p y + s - p from wrap64 (by omega) (by omega)]
      omega
    have hDl : (pre ++ List.replicate ((cnt + 1) * wn) zz).length = tn + (cnt + 1) * wn := by simp [hpl]
    have hmul : (cnt + 1) * wn = cnt * wn + wn := by rw [Nat.add_mul, Nat.one_mul]
    have c1 : re.sx ((tn + wn : Nat) : Int) (re.len (pre ++ List.replicate ((cnt + 1) * wn) zz)) = some (tn + wn) := e_sx (by rw [e_len, hDl, hmul]; omega)
    have c2 : re.sx (tn : Int) (tn + wn) = some tn := e_sx (by omega)
    have c3 : re.sx ((fn + wn : Nat) : Int) (re.len l) = some (fn + wn) := e_sx (by rw [e_len]; omega)
    have c4 : re.sx (fn : Int) (fn + wn) = some fn := e_sx (by omega)
    have hrow : re.seg l fn (re.sub (fn + wn) fn) = row l a b c p s y := by
      show (l.drop fn).take (fn + wn - fn) = _
      unfold row
      rw [hfn, hwn, show fn + wn - fn = wn by omega]; rfl
    have hseg : re.seg (row l a b c p s y) 0 (re.nmn (re.len (row l a b c p s y)) (re.sub (tn + wn) tn)) = row l a b c p s y := by
      show ((row l a b c p s y).drop 0).take (min (row l a b c p s y).length (tn + wn - tn)) = _
      rw [hrl, show tn + wn - tn = wn by omega, Nat.min_self, List.drop_zero, List.take_of_length_le (by omega)]
    have hspl : re.spl (pre ++ List.replicate ((cnt + 1) * wn) zz) tn (row l a b c p s y) = (pre ++ row l a b c p s y) ++ List.replicate (cnt * wn) zz := by
      show (pre ++ List.replicate ((cnt + 1) * wn) zz).take tn ++ row l a b c p s y ++ (pre ++ List.replicate ((cnt + 1) * wn) zz).drop (tn + (row l a b c p s y).length) = _
      rw [hrl, List.take_append_of_le_length (by omega), List.take_of_length_le (by omega), List.drop_append, List.drop_of_length_le (by omega), List.nil_append, hpl, List.drop_replicate, hmul,
        show cnt * wn + wn - (tn + wn - tn) = cnt * wn by omega]
    have hnext := ih n (y + 1) (pre ++ row l a b c p s y) (by omega) (by omega) (by omega) (by omega) (by rw [List.length_append, hrl, hpl, hat', ← hat]; omega) k0
    rw [hwn] at hnext ⊢
    rw [ht] at b1
    rw [hfn] at b2
    simp only [L101_2_0, GL101_2_0, hlt, F121_v, a1, a2, ht, hfn, b1, b2, c1, c2, c3, c4, hrow, hseg, hspl, e_inc' (show 0 ≤ y by omega) (show y ≤ 4097 by omega)]
    rw [hnext, rows, List.append_assoc]
end Go.Proofs.Ytcapaihnachkhaa
