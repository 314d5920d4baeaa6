/-
  The steps of a curve are those of its lower hull: no point lies below.
-/
import Derived.Test.YtdjmknhhdkjklaaGreat7g
set_option linter.unusedVariables false
set_option linter.unusedSimpArgs false
set_option maxRecDepth 100000
namespace Go.Proofs.YtdjmknhhdkjklaaGreat
open Go.Os
open Go.ChangeShapes Go.WideShapes Go.ChangeAt Go.RowKit
theorem gtS_x {f1 b1 f2 b2 : Int} (h1 : 0 < f1) (h2 : 0 < f2) (g1 : 0 ≤ b1) (g2 : 0 ≤ b2) : gtS (f1, b1) (f2, b2) = decide (f2 * b1 < f1 * b2) := by
  unfold gtS infS runS
  simp only [decide_eq_true h1, decide_eq_true h2, Bool.and_true]
  by_cases e1 : b1 = 0
  · subst e1
    simp only [decide_true, Int.mul_zero]
    by_cases e2 : b2 = 0
    · subst e2
      simp
    · have := Int.mul_pos h1 (show 0 < b2 by omega)
      simp only [decide_eq_false e2, Bool.not_false, decide_eq_true this]
  · simp only [decide_eq_false e1]
    by_cases e2 : b2 = 0
    · subst e2
      have := Int.mul_pos h2 (show 0 < b1 by omega)
      simp only [decide_true, Int.mul_zero, decide_eq_false (show ¬ f2 * b1 < 0 by omega)]
    · simp only [decide_eq_false e2, if_neg (show ¬ b1 < 1 by omega), if_neg (show ¬ b2 < 1 by omega)]
theorem stv_x {f1 b1 f2 b2 : Int} (h1 : 0 < f1) (h2 : 0 < f2) (r1 : rngS f1 b1 = true) (r2 : rngS f2 b2 = true) :
    (0 < stv f1 b1 f2 b2 ↔ f2 * b1 < f1 * b2) ∧ (stv f1 b1 f2 b2 = 0 ↔ f2 * b1 = f1 * b2) := by
  obtain ⟨_, _, g1, _⟩ := rngS_in r1
  obtain ⟨_, _, g2, _⟩ := rngS_in r2
  unfold stv infS runS
  rw [r1, r2]
  simp only [decide_eq_true h1, decide_eq_true h2, Bool.and_true]
  by_cases e1 : b1 = 0
  · subst e1
    simp only [decide_true, Int.mul_zero]
    by_cases e2 : b2 = 0
    · subst e2
      simp
    · have := Int.mul_pos h1 (show 0 < b2 by omega)
      simp only [decide_eq_false e2]
      omega
  · simp only [decide_eq_false e1]
    by_cases e2 : b2 = 0
    · subst e2
      have := Int.mul_pos h2 (show 0 < b1 by omega)
      simp only [decide_true, Int.mul_zero]
      omega
    · simp only [decide_eq_false e2, if_neg (show ¬ b1 < 1 by omega), if_neg (show ¬ b2 < 1 by omega)]
      generalize f1 * b2 = u
      generalize f2 * b1 = v
      by_cases a : u < v
      · simp only [decide_eq_true a]
        exact ⟨⟨fun h => by omega, fun h => by omega⟩, ⟨fun h => by omega, fun h => by omega⟩⟩
      · simp only [decide_eq_false a]
        by_cases b : v < u
        · simp only [decide_eq_true b]
          exact ⟨⟨fun h => by omega, fun h => by omega⟩, ⟨fun h => by omega, fun h => by omega⟩⟩
        · simp only [decide_eq_false b]
          exact ⟨⟨fun h => by omega, fun h => by omega⟩, ⟨fun h => by omega, fun h => trivial⟩⟩
def NB (x y : Int × Int) : Prop := x.1 * y.2 ≤ y.1 * x.2 ∧ (x.1 * y.2 = y.1 * x.2 → x.1 ≤ y.1)
theorem NB_trans {x y z : Int × Int} (hx : 0 < x.1) (hy : 0 < y.1) (hz : 0 < z.1) (gx : 0 ≤ x.2) (gy : 0 ≤ y.2) (gz : 0 ≤ z.2) (h1 : NB x y) (h2 : NB y z) : NB x z := by
  obtain ⟨a1, a2⟩ := h1
  obtain ⟨b1, b2⟩ := h2
  have e1 : x.1 * (y.1 * z.2) ≤ x.1 * (z.1 * y.2) := Int.mul_le_mul_of_nonneg_left b1 (by omega)
  have e2 : z.1 * (x.1 * y.2) ≤ z.1 * (y.1 * x.2) := Int.mul_le_mul_of_nonneg_left a1 (by omega)
  have e3 : (x.1 * z.2) * y.1 ≤ (z.1 * x.2) * y.1 := by
    have i1 : (x.1 * z.2) * y.1 = x.1 * (y.1 * z.2) := by grind
    have i2 : x.1 * (z.1 * y.2) = z.1 * (x.1 * y.2) := by grind
    have i3 : z.1 * (y.1 * x.2) = (z.1 * x.2) * y.1 := by grind
    omega
  refine ⟨Int.le_of_mul_le_mul_right e3 hy, fun e => ?_⟩
  have i1 : (x.1 * z.2) * y.1 = x.1 * (y.1 * z.2) := by grind
  have i2 : x.1 * (z.1 * y.2) = z.1 * (x.1 * y.2) := by grind
  have i3 : z.1 * (y.1 * x.2) = (z.1 * x.2) * y.1 := by grind
  have i4 : (x.1 * z.2) * y.1 = (z.1 * x.2) * y.1 := by rw [e]
  have j1 : x.1 * (y.1 * z.2) = x.1 * (z.1 * y.2) := by omega
  have j2 : z.1 * (x.1 * y.2) = z.1 * (y.1 * x.2) := by omega
  have k1 := Int.eq_of_mul_eq_mul_left (by omega) j1
  have k2 := Int.eq_of_mul_eq_mul_left (by omega) j2
  have := a2 k2
  have := b2 k1
  omega
def sl (r d : IL) (i x : Nat) : Int × Int := (gI d i - gI d x, gI r x - gI r i)
section
variable {r d : IL} (V : VC r d)
include V
theorem sl_rng {i x : Nat} (hx : i ≤ x) (hr : x < r.length) (hd : gI d x ≤ gI d i) : rngS (sl r d i x).1 (sl r d i x).2 = true := by
  have e1 := V_d V (show i < r.length by omega)
  have e2 := V_d V hr
  have e3 := V_r V (show i < r.length by omega)
  have e4 := V_r V hr
  have e5 := V_m V hx hr
  exact rngS_of (by simp only [sl]; omega) (by simp only [sl]; omega) (by simp only [sl]; omega) (by simp only [sl]; omega)
def Bst (r d : IL) (i j : Nat) (o : Int) : Prop := (o = -1 ∧ ∀ x, i < x → x < j → gI d i ≤ gI d x) ∨ ∃ m : Nat, o = (m : Int) ∧ i < m ∧ m < r.length ∧ gI d m < gI d i ∧ ∀ x, i < x → x < j → gI d x < gI d i → NB (sl r d i x) (sl r d i m)
theorem Bst_step {i j : Nat} {o : Int} (h : Bst r d i j o) (hj : i < j) (hr : j < r.length) : Bst r d i (j + 1) (match bet r d i o j with | true => (j : Int) | false => o) := by
  unfold bet
  by_cases e1 : gI d j < gI d i
  · rw [decide_eq_true e1]
    simp only
    rcases h with ⟨rfl, h⟩ | ⟨m, rfl, h1, h2, h3, h⟩
    · refine Or.inr ⟨j, rfl, hj, hr, e1, fun x g1 g2 g3 => ?_⟩
      by_cases e : x = j
      · subst e; exact ⟨Int.le_refl _, fun _ => Int.le_refl _⟩
      · have := h x g1 (by omega); omega
    · rw [decide_eq_false (show ¬ ((m : Int) < 0) by omega)]
      simp only [Int.toNat_natCast]
      have pj : 0 < (sl r d i j).1 := by simp only [sl]; omega
      have pm : 0 < (sl r d i m).1 := by simp only [sl]; omega
      have rj := sl_rng V (show i ≤ j by omega) hr (by omega)
      have rm := sl_rng V (show i ≤ m by omega) h2 (by omega)
      obtain ⟨s1, s2⟩ := stv_x pj pm rj rm
      simp only [sl] at s1 s2
      have better : NB (sl r d i m) (sl r d i j) → Bst r d i (j + 1) (j : Int) := by
        intro hb
        refine Or.inr ⟨j, rfl, hj, hr, e1, fun x g1 g2 g3 => ?_⟩
        by_cases e : x = j
        · subst e; exact ⟨Int.le_refl _, fun _ => Int.le_refl _⟩
        · have px : 0 < (sl r d i x).1 := by simp only [sl]; omega
          have rx := sl_rng V (show i ≤ x by omega) (show x < r.length by omega) (by omega)
          exact NB_trans px pm pj (rngS_in rx).2.2.1 (rngS_in rm).2.2.1 (rngS_in rj).2.2.1 (h x g1 (by omega) g3) hb
      have worse : NB (sl r d i j) (sl r d i m) → Bst r d i (j + 1) (m : Int) := by
        intro hb
        refine Or.inr ⟨m, rfl, h1, h2, h3, fun x g1 g2 g3 => ?_⟩
        by_cases e : x = j
        · subst e; exact hb
        · exact h x g1 (by omega) g3
      by_cases a : 0 < stv (gI d i - gI d j) (gI r j - gI r i) (gI d i - gI d m) (gI r m - gI r i)
      · rw [decide_eq_true a]
        have a' := s1.1 a
        exact better ⟨by simp only [sl]; omega, fun e => by simp only [sl] at e; omega⟩
      · rw [decide_eq_false a]
        have a' := fun h => a (s1.2 h)
        by_cases b : stv (gI d i - gI d j) (gI r j - gI r i) (gI d i - gI d m) (gI r m - gI r i) = 0
        · rw [decide_eq_true b]
          have b' := s2.1 b
          simp only
          by_cases c : gI d j < gI d m
          · rw [decide_eq_true c]
            exact better ⟨by simp only [sl]; omega, fun e => by simp only [sl]; omega⟩
          · rw [decide_eq_false c]
            exact worse ⟨by simp only [sl]; omega, fun e => by simp only [sl]; omega⟩
        · rw [decide_eq_false b]
          have b' := fun h => b (s2.2 h)
          exact worse ⟨by simp only [sl]; omega, fun e => by simp only [sl] at e; omega⟩
  · rw [decide_eq_false e1]
    simp only
    rcases h with ⟨rfl, h⟩ | ⟨m, rfl, h1, h2, h3, h⟩
    · refine Or.inl ⟨rfl, fun x g1 g2 => ?_⟩
      by_cases e : x = j
      · subst e; omega
      · exact h x g1 (by omega)
    · refine Or.inr ⟨m, rfl, h1, h2, h3, fun x g1 g2 g3 => ?_⟩
      by_cases e : x = j
      · subst e; omega
      · exact h x g1 (by omega) g3
theorem nxt_Bst {i : Nat} : ∀ {c j : Nat} {o : Int}, Bst r d i j o → i < j → j + c = r.length → Bst r d i r.length (nxt r d i c j o)
  | 0, j, o, h, _, hr => by rw [show r.length = j by omega]; exact h
  | c + 1, j, o, h, hj, hr => nxt_Bst (c := c) (Bst_step V h hj (by omega)) (by omega) (by omega)
end
def HC (r d : IL) : Nat → List Nat → Prop
  | a, [] => ∀ x, a < x → x < r.length → gI d a ≤ gI d x
  | a, b :: l => (a < b ∧ b < r.length ∧ gI d b < gI d a ∧ ∀ x, a < x → x < r.length → gI d x < gI d a → NB (sl r d a x) (sl r d a b)) ∧ HC r d b l
theorem tlp_HC {r d : IL} (V : VC r d) : ∀ (f i : Nat), i < r.length → r.length ≤ i + 1 + f → HC r d i (tlp r d f i)
  | 0, i, h, hf => fun x h1 h2 => by omega
  | f + 1, i, h, hf => by
    have ho : Bst r d i r.length (nxt r d i (r.length - (i + 1)) (i + 1) (-1)) := nxt_Bst V (Or.inl ⟨rfl, fun x h1 h2 => by omega⟩) (by omega) (by omega)
    unfold tlp
    rcases ho with ⟨e, ho⟩ | ⟨m, e, h1, h2, h3, ho⟩
    · rw [e]; exact ho
    · rw [e, decide_eq_false (show ¬ ((m : Int) < 0) by omega)]
      exact ⟨⟨h1, h2, h3, ho⟩, tlp_HC V f m h2 (by omega)⟩
def mS (p q : Int) (s : St) : Int := if p * s.1.2 - q * s.1.1 ≤ 0 then p * s.1.2 - q * s.1.1 else 0
def sM (p q : Int) : List St → Int
  | [] => 0
  | s :: l => mS p q s + sM p q l
theorem mS_le (p q : Int) (s : St) : mS p q s ≤ 0 := by unfold mS; split <;> omega
theorem sM_le (p q : Int) : ∀ l, sM p q l ≤ 0
  | [] => Int.le_refl _
  | s :: l => by
    have := mS_le p q s
    have := sM_le p q l
    unfold sM; omega
theorem hull_arith1 {q p F R u v : Int} (hq : 0 < q) (hF : 0 < F) (hR : 0 ≤ R) (hp : 0 ≤ p) (hv : 0 ≤ v) (h : u * R ≤ F * v) (hs : q * F ≤ p * R) : q * u ≤ p * v := by
  by_cases e : R = 0
  · subst e
    have := Int.mul_pos hq hF
    omega
  · have e1 : q * (u * R) ≤ q * (F * v) := Int.mul_le_mul_of_nonneg_left h (by omega)
    have e2 : v * (q * F) ≤ v * (p * R) := Int.mul_le_mul_of_nonneg_left hs hv
    have i1 : q * (u * R) = (q * u) * R := by grind
    have i2 : q * (F * v) = v * (q * F) := by grind
    have i3 : v * (p * R) = (p * v) * R := by grind
    exact Int.le_of_mul_le_mul_right (show (q * u) * R ≤ (p * v) * R by omega) (by omega)
theorem hull_arith2 {q p F R u v : Int} (hq : 0 < q) (hF : 0 < F) (hR : 0 ≤ R) (hp : 0 ≤ p) (hv : 0 ≤ v) (hv' : v ≤ R) (h : u * R ≤ F * v) (h0 : R = 0 → u ≤ F) (hs : p * R ≤ q * F) : p * (R - v) ≤ q * (F - u) := by
  by_cases e : R = 0
  · subst e
    have hv0 : v = 0 := by omega
    subst hv0
    have := Int.mul_nonneg (show 0 ≤ q by omega) (show 0 ≤ F - u by have := h0 rfl; omega)
    simpa using this
  · have e2 : (R - v) * (p * R) ≤ (R - v) * (q * F) := Int.mul_le_mul_of_nonneg_left hs (by omega)
    have e1 : q * (u * R) ≤ q * (F * v) := Int.mul_le_mul_of_nonneg_left h (by omega)
    have i1 : (R - v) * (p * R) = (p * (R - v)) * R := by grind
    have i2 : (q * (F - u)) * R = (R - v) * (q * F) + (q * (F * v) - q * (u * R)) := by grind
    exact Int.le_of_mul_le_mul_right (show (p * (R - v)) * R ≤ (q * (F - u)) * R by omega) (by omega)
theorem hull_low {r d : IL} (V : VC r d) {p q : Int} (hp : 0 ≤ p) (hq : 0 < q) (c : Int) : ∀ (l : List Nat) (a : Nat), a < r.length → HC r d a l → ∀ x, a ≤ x → x < r.length →
    q * gI d a + p * gI r a + sM p q (stO c r d a l) ≤ q * gI d x + p * gI r x
  | [], a, ha, h, x, hx, hr => by
    have e1 : gI d a ≤ gI d x := by
      by_cases e : a = x
      · subst e; exact Int.le_refl _
      · exact h x (by omega) hr
    have e2 := V_m V hx hr
    have e3 := Int.mul_le_mul_of_nonneg_left e1 (show 0 ≤ q by omega)
    have e4 := Int.mul_le_mul_of_nonneg_left e2 hp
    simp only [stO, sM]; omega
  | b :: l, a, ha, h, x, hx, hr => by
    obtain ⟨⟨h1, h2, h3, h4⟩, h⟩ := h
    have ih := hull_low V hp hq c l b h2 h
    have hM := sM_le p q (stO c r d b l)
    have hm := mS_le p q ((gI d a - gI d b, gI r b - gI r a), (c, (b : Int)))
    have hs : sM p q (stO c r d a (b :: l)) = mS p q ((gI d a - gI d b, gI r b - gI r a), (c, (b : Int))) + sM p q (stO c r d b l) := rfl
    rw [hs]
    have hm' : mS p q ((gI d a - gI d b, gI r b - gI r a), (c, (b : Int))) ≤ p * (gI r b - gI r a) - q * (gI d a - gI d b) := by
      unfold mS; simp only; split <;> omega
    have j1 : p * (gI r b - gI r a) = p * gI r b - p * gI r a := Int.mul_sub ..
    have j2 : q * (gI d a - gI d b) = q * gI d a - q * gI d b := Int.mul_sub ..
    by_cases e1 : b ≤ x
    · have := ih x e1 hr
      omega
    · by_cases e2 : x = a
      · subst e2; omega
      · have m1 := V_m V (show a ≤ x by omega) hr
        have m2 := V_m V (show x ≤ b by omega) h2
        have T1 : (gI d a - gI d x) * (gI r b - gI r a) ≤ (gI d a - gI d b) * (gI r x - gI r a) := by
          by_cases g : gI d x < gI d a
          · exact (h4 x (by omega) hr g).1
          · have z1 : 0 ≤ (gI d x - gI d a) * (gI r b - gI r a) := Int.mul_nonneg (by omega) (by omega)
            have z2 : 0 ≤ (gI d a - gI d b) * (gI r x - gI r a) := Int.mul_nonneg (by omega) (by omega)
            have z3 : (gI d a - gI d x) * (gI r b - gI r a) = - ((gI d x - gI d a) * (gI r b - gI r a)) := by grind
            omega
        by_cases hle : p * (gI r b - gI r a) - q * (gI d a - gI d b) ≤ 0
        · have T2 : gI r b - gI r a = 0 → gI d a - gI d x ≤ gI d a - gI d b := by
            intro z
            by_cases g : gI d x < gI d a
            · have := (h4 x (by omega) hr g).2
              simp only [sl] at this
              refine this ?_
              rw [z, show gI r x - gI r a = 0 by omega]; omega
            · omega
          have := hull_arith2 (q := q) (p := p) (F := gI d a - gI d b) (R := gI r b - gI r a) (u := gI d a - gI d x) (v := gI r x - gI r a) hq (by omega) (by omega) hp (by omega) (by omega) T1 T2 (by omega)
          have k1 : p * (gI r b - gI r a - (gI r x - gI r a)) = p * gI r b - p * gI r x := by grind
          have k2 : q * (gI d a - gI d b - (gI d a - gI d x)) = q * gI d x - q * gI d b := by grind
          omega
        · have := hull_arith1 (q := q) (p := p) (F := gI d a - gI d b) (R := gI r b - gI r a) (u := gI d a - gI d x) (v := gI r x - gI r a) hq (by omega) (by omega) hp (by omega) T1 (by omega)
          have k1 : p * (gI r x - gI r a) = p * gI r x - p * gI r a := Int.mul_sub ..
          have k2 : q * (gI d a - gI d x) = q * gI d a - q * gI d x := Int.mul_sub ..
          omega
theorem stO_sorted {r d : IL} (V : VC r d) (c : Int) : ∀ (l : List Nat) (a : Nat), a < r.length → HC r d a l → SortedS gtT (stO c r d a l)
  | [], _, _, _ => trivial
  | b :: l, a, ha, h => by
    obtain ⟨⟨h1, h2, h3, h4⟩, h⟩ := h
    have ih := stO_sorted V c l b h2 h
    refine ⟨?_, ih⟩
    cases l with
    | nil => intro y hy; cases hy
    | cons e l =>
      obtain ⟨⟨g1, g2, g3, g4⟩, h⟩ := h
      have first : gtT ((gI d b - gI d e, gI r e - gI r b), (c, (e : Int))) ((gI d a - gI d b, gI r b - gI r a), (c, (b : Int))) = false := by
        have m1 := V_m V (show a ≤ b by omega) h2
        have m2 := V_m V (show b ≤ e by omega) g2
        show gtS (gI d b - gI d e, gI r e - gI r b) (gI d a - gI d b, gI r b - gI r a) = false
        rw [gtS_x (by omega) (by omega) (by omega) (by omega)]
        have := (h4 e (by omega) g2 (by omega)).1
        simp only [sl] at this
        refine decide_eq_false ?_
        have k1 : (gI d a - gI d e) * (gI r b - gI r a) = (gI d a - gI d b) * (gI r b - gI r a) + (gI d b - gI d e) * (gI r b - gI r a) := by grind
        have k2 : (gI d a - gI d b) * (gI r e - gI r a) = (gI d a - gI d b) * (gI r b - gI r a) + (gI d a - gI d b) * (gI r e - gI r b) := by grind
        omega
      intro y hy
      rcases List.mem_cons.1 hy with rfl | hy
      · exact first
      · exact weakT.neg _ _ _ (ih.1 y hy) first
end Go.Proofs.YtdjmknhhdkjklaaGreat
