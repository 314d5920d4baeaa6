/-
  Planes, cropped: the answer.
-/
import Derived.Test.Ytcapaihnachkhaa10b
set_option linter.unusedVariables false
set_option linter.unusedSimpArgs false
set_option maxRecDepth 100000
namespace Go.Proofs.Ytcapaihnachkhaa
open Go.Os
open Go.ChangeShapes Go.WideShapes Go.ChangeAt Go.RowKit
theorem mx_eq (x y : Int) : re.mx x y = y ↔ x ≤ y := by
  show (if x < y then y else x) = y ↔ _
  split <;> omega
theorem mn_eq (x y : Int) : re.mn x y = y ↔ y ≤ x := by
  show (if y < x then y else x) = y ↔ _
  split <;> omega
theorem F62_v (N : Nat) (a b c d : Int) (k : Bool → Option Unit) : F62_0 re rk N a b c d k = k (v66 a b c d) := by rw [F62_eq, F66_v]
theorem F64_w (N : Nat) (a b c d e f g h : Int) (k : Int → Int → Int → Int → Option Unit) : F64_0 re rk N a b c d e f g h k = (match v66 (re.mx a e) (re.mx b f) (re.mn c g) (re.mn d h) with | true => k 0 0 0 0 | false => k (re.mx a e) (re.mx b f) (re.mn c g) (re.mn d h)) := by
  unfold F64_0 G64_0
  simp only [F66_v]
  cases v66 (re.mx a e) (re.mx b f) (re.mn c g) (re.mn d h) <;> rfl
theorem contains_v (a b c d p q s t : Int) (h0 : p < s) (h0' : q < t) : ∃ v : Bool, (v = true → a ≤ p ∧ b ≤ q ∧ s ≤ c ∧ t ≤ d) ∧ (∀ k : Bool → Option Unit, F100_0 re rk 5000 a b c d p q s t k = k v) ∧ (∀ k : Bool → Option Unit, F102_0 re rk 5000 a b c d p q s t k = k v) := by
  have hv : v66 p q s t = false := by
    unfold v66
    rw [e_geq, e_geq, Bool.or_eq_false_iff]
    exact ⟨decide_eq_false (by omega), decide_eq_false (by omega)⟩
  refine ⟨re.cm .leq a p && (re.cm .leq s c && (re.cm .leq b q && re.cm .leq t d)), fun h => ?_, fun k => ?_, fun k => ?_⟩
  · simp only [e_leq, Bool.and_eq_true, decide_eq_true_eq] at h
    omega
  · unfold F100_0 G100_0
    simp only [F62_v, hv, F60_eq, F64_w]
    cases h : v66 (re.mx a p) (re.mx b q) (re.mn c s) (re.mn d t) with
    | true =>
      have e1 : re.ba (re.cm .eql 0 p) (re.ba (re.cm .eql 0 q) (re.ba (re.cm .eql 0 s) (re.ba (re.cm .eql 0 t) true))) = false := by
        show (decide (0 = p) && (decide (0 = q) && (decide (0 = s) && (decide (0 = t) && true)))) = false
        by_cases hp : (0 : Int) = p
        · have : ¬ (0 : Int) = s := by omega
          simp [this]
        · simp [hp]
      have e2 : (re.cm .leq a p && (re.cm .leq s c && (re.cm .leq b q && re.cm .leq t d))) = false := by
        rw [Bool.eq_false_iff]
        intro hc
        simp only [e_leq, Bool.and_eq_true, decide_eq_true_eq] at hc
        obtain ⟨c1, c2, c3, c4⟩ := hc
        rw [(mx_eq a p).2 c1, (mx_eq b q).2 c3, (mn_eq c s).2 c2, (mn_eq d t).2 c4, hv] at h
        cases h
      simp only [e1, e2]
    | false =>
      have e1 : re.ba (re.cm .eql (re.mx a p) p) (re.ba (re.cm .eql (re.mx b q) q) (re.ba (re.cm .eql (re.mn c s) s) (re.ba (re.cm .eql (re.mn d t) t) true))) = (re.cm .leq a p && (re.cm .leq s c && (re.cm .leq b q && re.cm .leq t d))) := by
        show (decide (re.mx a p = p) && (decide (re.mx b q = q) && (decide (re.mn c s = s) && (decide (re.mn d t = t) && true)))) = _
        simp only [e_leq, mx_eq, mn_eq, Bool.and_true]
        cases decide (a ≤ p) <;> cases decide (b ≤ q) <;> cases decide (s ≤ c) <;> cases decide (t ≤ d) <;> rfl
      simp only [e1]
  · unfold F102_0 G102_0
    simp only [F66_v, hv]
    cases re.cm .leq a p <;> cases re.cm .leq s c <;> cases re.cm .leq b q <;> rfl
theorem v79_v {a b c d : Int} (h : v65 a b c d = true) : v79 a b c d = (c - a) * (d - b) := by
  obtain ⟨v1, v2, v3, v4, v5, v6⟩ := v65_on h
  obtain ⟨m1, m2⟩ := prod_le (u := c - a) (v := d - b) (by omega) (by omega) (by omega) (by omega)
  unfold v79
  rw [h]
  show re.ar .mul .i64 (re.ar .sub .i64 c a) (re.ar .sub .i64 d b) = _
  rw [show re.ar .sub .i64 c a = c - a from wrap64 (by omega) (by omega), show re.ar .sub .i64 d b = d - b from wrap64 (by omega) (by omega)]
  exact wrap64 (by omega) (by omega)
theorem valid_t {a b c d : Int} {l : List R} (h : PL a b c d l) (hl : l.length ≤ 1700) : (∀ k : Bool → Option Unit, F46_0 re rk 5000 a b c d l k = k true) ∧ (∀ k : Bool → Option Unit, F50_0 re rk 5000 a b c d l k = k true) := by
  have e1 : re.cm .leq ((c - a) * (d - b)) 1048576 = true := decide_eq_true (by rw [← h.len]; omega)
  have e2 : re.cm .eql (re.on (re.len l)) ((c - a) * (d - b)) = true := decide_eq_true (by rw [← h.len]; rfl)
  refine ⟨fun k => ?_, fun k => ?_⟩
  · unfold F46_0 G46_0
    simp only [F61_eq, F75_eq, F65_v, F79_v, h.v, v79_v h.v, e1, e2]
  · unfold F50_0 G50_0
    simp only [F65_v, F79_v, h.v, v79_v h.v, e1, e2]
theorem row_el {l : List R} (hl : ∀ x ∈ l, shOK (.i .i64) x) (a b c p s y : Int) : ∀ x ∈ row l a b c p s y, shOK (.i .i64) x := fun x hx => hl x (List.mem_of_mem_drop (List.mem_of_mem_take hx))
theorem rows_el {l : List R} (hl : ∀ x ∈ l, shOK (.i .i64) x) (a b c p s : Int) : ∀ (n : Nat) (y : Int), ∀ x ∈ rows l a b c p s n y, shOK (.i .i64) x
  | 0, _, x, hx => by cases hx
  | n + 1, y, x, hx => by
    rcases List.mem_append.1 hx with h | h
    · exact row_el hl a b c p s y x h
    · exact rows_el hl a b c p s n (y + 1) x h
theorem rows_len {l : List R} (a b c p s : Int) : ∀ (n : Nat) (y : Int), (rows l a b c p s n y).length ≤ n * (s - p).toNat
  | 0, _ => by simp [rows]
  | n + 1, y => by
    have := rows_len (l := l) a b c p s n (y + 1)
    rw [rows, List.length_append, Nat.add_mul, Nat.one_mul]
    have h2 : (row l a b c p s y).length ≤ (s - p).toNat := by
      unfold row
      exact List.length_take_le _ _
    omega
theorem crop_v {a b c d : Int} {l : List R} (h : PL a b c d l) (hl : l.length ≤ 1700) (p q s t : Int) (h0 : p < s) (h0' : q < t) :
    ∃ o : Option (List R), (∀ D, o = some D → D ≠ [] ∧ D.length ≤ 1700 ∧ ∀ x ∈ D, shOK (.i .i64) x) ∧
      (∀ (k0 : Int → Int → Int → Int → Int → Option Unit) (k1 : Int → Int → Int → Int → List R → Int → Option Unit), F69_0 re rk 5000 a b c d l p q s t k0 k1 = (match o with | none => k0 0 0 0 0 2 | some D => k1 p q s t D 0)) ∧
      (∀ (k0 : Int → Int → Int → Int → Int → Option Unit) (k1 : Int → Int → Int → Int → List R → Int → Option Unit), F70_0 re rk 5000 a b c d l p q s t k0 k1 = (match o with | none => k0 0 0 0 0 2 | some D => k1 p q s t D 0)) := by
  obtain ⟨u1, u2⟩ := valid_t h hl
  obtain ⟨v, v0, v1, v2⟩ := contains_v a b c d p q s t h0 h0'
  have hne : v66 p q s t = false := by
    unfold v66
    rw [e_geq, e_geq, Bool.or_eq_false_iff]
    exact ⟨decide_eq_false (by omega), decide_eq_false (by omega)⟩
  unfold F69_0 G69_0 F70_0 G70_0
  simp only [u1, u2, F61_eq, F65_v, F62_v, F75_eq, F79_v, v1, v2, hne, e_bn, Bool.not_true, Bool.not_false]
  cases hv : v65 p q s t with
  | false => exact ⟨none, (fun D hD => by cases hD), fun k0 k1 => rfl, fun k0 k1 => rfl⟩
  | true => cases v with
    | false => exact ⟨none, (fun D hD => by cases hD), fun k0 k1 => rfl, fun k0 k1 => rfl⟩
    | true =>
      simp only [Bool.not_true]
      obtain ⟨c1, c2, c3, c4⟩ := v0 rfl
      obtain ⟨w1, w2, w3, w4, w5, w6⟩ := v65_on hv
      obtain ⟨wn, hw⟩ : ∃ wn : Nat, s - p = wn := ⟨(s - p).toNat, by omega⟩
      obtain ⟨hn, hh⟩ : ∃ hn : Nat, t - q = hn := ⟨(t - q).toNat, by omega⟩
      have harea : v79 p q s t = ((hn * wn : Nat) : Int) := by
        rw [v79_v hv, hw, hh, Int.mul_comm]; rfl
      have hb : hn * wn ≤ 16777216 := by
        have := (prod_le (u := t - q) (v := s - p) (by omega) (by omega) (by omega) (by omega)).2
        rw [hw, hh] at this
        exact Int.ofNat_le.1 (show ((hn * wn : Nat) : Int) ≤ ((16777216 : Nat) : Int) from this)
      have e1 : re.mkn ((hn * wn : Nat) : Int) 8 = some (hn * wn) := by
        show (if 0 ≤ ((hn * wn : Nat) : Int) ∧ ((hn * wn : Nat) : Int) ≤ 70368744177664 ∧ ((hn * wn : Nat) : Int) * ((8 : Nat) : Int) ≤ 70368744177664 then some ((hn * wn : Nat) : Int).toNat else none) = _
        rw [if_pos (by omega)]; rfl
      have e2 : re.sx ((hn * wn : Nat) : Int) (hn * wn) = some (hn * wn) := e_sx (Nat.le_refl _)
      have hD : ∀ k : Int → Int → Int → Int → List R → Option Unit, F101_0 re rk 5000 p q s t (re.rep (hn * wn) (R.i .i64 0)) a b c d l p q s t k = k p q s t (rows l a b c p s hn q) := by
        intro k
        have hp := part_rows h p q s t p q s t c1 h0 c3 c2 c4 (R.i .i64 0) hn 5000 q [] (by omega) (by omega) (by omega) (by omega) (by
          unfold at'
          rw [Int.sub_self, Int.zero_mul]
          simp) k
        rw [show (s - p).toNat = wn by omega, List.nil_append, List.nil_append] at hp
        unfold F101_0 G101_0
        exact hp
      have hR := ref_all h 0 0 0 0 p q s t p q s t c1 h0 c3 c2 h0' c4
      rw [show (t - q).toNat = hn by omega] at hR
      refine ⟨some (rows l a b c p s hn q), fun D hD' => ?_, fun k0 k1 => ?_, fun k0 k1 => ?_⟩
      · cases hD'
        refine ⟨fun he => ?_, ?_, rows_el h.el a b c p s hn q⟩
        · obtain ⟨m, rfl⟩ : ∃ m, hn = m + 1 := ⟨hn - 1, by omega⟩
          have hrl := row_len h c1 h0 c3 c2 (show q < d by omega)
          have : (rows l a b c p s (m + 1) q).length = 0 := by rw [he]; rfl
          rw [rows, List.length_append, hrl] at this
          omega
        · have h8 := rows_len (l := l) a b c p s hn q
          rw [show (s - p).toNat = wn by omega] at h8
          have h9 : ((hn * wn : Nat) : Int) ≤ ((l.length : Nat) : Int) := by
            rw [h.len, Int.mul_comm (c - a)]
            have := Int.mul_le_mul (show (hn : Int) ≤ d - b by omega) (show (wn : Int) ≤ c - a by omega) (by omega) (by omega)
            exact this
          have h10 := Int.ofNat_le.1 h9
          omega
      · rw [harea]
        simp only [e1, e2, hD]
      · simp only [hR]
end Go.Proofs.Ytcapaihnachkhaa
