/-
  The points of a curve on its hull.
-/
import Derived.Test.YtdjmknhhdkjklaaGreat7b
set_option linter.unusedVariables false
set_option linter.unusedSimpArgs false
set_option maxRecDepth 100000
namespace Go.Proofs.YtdjmknhhdkjklaaGreat
open Go.Os
open Go.ChangeShapes Go.WideShapes Go.ChangeAt Go.RowKit
def bet (r d : IL) (i : Nat) (o : Int) (j : Nat) : Bool := match decide (gI d j < gI d i) with
  | false => false
  | true => match decide (o < 0) with
    | true => true
    | false => match decide (0 < stv (gI d i - gI d j) (gI r j - gI r i) (gI d i - gI d o.toNat) (gI r o.toNat - gI r i)) with
      | true => true
      | false => match decide (stv (gI d i - gI d j) (gI r j - gI r i) (gI d i - gI d o.toNat) (gI r o.toNat - gI r i) = 0) with
        | true => decide (gI d j < gI d o.toNat)
        | false => false
def nxt (r d : IL) (i : Nat) : Nat → Nat → Int → Int
  | 0, _, o => o
  | c + 1, j, o => nxt r d i c (j + 1) (match bet r d i o j with | true => (j : Int) | false => o)
def isO (r d : IL) (i : Nat) (o : Int) : Prop := o = -1 ∨ ∃ m : Nat, o = (m : Int) ∧ i < m ∧ m < r.length ∧ gI d m < gI d i
theorem isO_step {r d : IL} {i j : Nat} {o : Int} (h : isO r d i o) (hj : i < j) (hr : j < r.length) : isO r d i (match bet r d i o j with | true => (j : Int) | false => o) := by
  cases e : bet r d i o j with
  | false => exact h
  | true =>
    refine Or.inr ⟨j, rfl, hj, hr, ?_⟩
    unfold bet at e
    cases e2 : decide (gI d j < gI d i) with
    | false => rw [e2] at e; cases e
    | true => exact of_decide_eq_true e2
theorem nxt_isO {r d : IL} {i : Nat} : ∀ {c j : Nat} {o : Int}, isO r d i o → i < j → j + c = r.length → isO r d i (nxt r d i c j o)
  | 0, _, _, h, _, _ => h
  | c + 1, j, o, h, hj, hr => nxt_isO (c := c) (isO_step h hj (by omega)) (by omega) (by omega)
theorem sub64 {x y : Int} (h : -1152921504606846976 ≤ x) (h' : x ≤ 1152921504606846976) (g : -1152921504606846976 ≤ y) (g' : y ≤ 1152921504606846976) : re.ar .sub .i64 x y = x - y :=
  wrap64 (by omega) (by omega)
section
variable {r d : IL} (V : VC r d)
include V
theorem V_d {i : Nat} (h : i < r.length) : 0 ≤ gI d i ∧ gI d i ≤ 70368744177664 := ⟨(V.2.2.2.2 i h).2.2.1, (V.2.2.2.2 i h).2.2.2.1⟩
theorem V_r {i : Nat} (h : i < r.length) : 0 ≤ gI r i ∧ gI r i ≤ 65535 := ⟨(V.2.2.2.2 i h).1, (V.2.2.2.2 i h).2.1⟩
theorem V_m {i j : Nat} (h : i ≤ j) (h' : j < r.length) : gI r i ≤ gI r j := mono_le (fun i hi hi' => (V.2.2.2.2 i hi').2.2.2.2 hi) h h'
theorem V_sd {i j : Nat} (h : i < r.length) (h' : j < r.length) : re.ar .sub .i64 (gI d i) (gI d j) = gI d i - gI d j := by
  have a := V_d V h
  have b := V_d V h'
  exact sub64 (by omega) (by omega) (by omega) (by omega)
theorem V_sr {i j : Nat} (h : i < r.length) (h' : j < r.length) : re.ar .sub .i64 (gI r i) (gI r j) = gI r i - gI r j := by
  have a := V_r V h
  have b := V_r V h'
  exact sub64 (by omega) (by omega) (by omega) (by omega)
theorem L44_v (k0 : Int → Int → Option Unit) {i : Nat} (hi : i < r.length) : ∀ (cnt j n : Nat) (o : Int), j + cnt = r.length → i < j → cnt < n → isO r d i o →
    L44_3_0 re rk 5000 n k0 (i : Int) (ints r) (ints d) o (j : Int) = k0 (i : Int) (nxt r d i cnt j o) := by
  have hdl : d.length = r.length := V.1
  intro cnt
  induction cnt with
  | zero =>
    intro j n o h hj hn ho
    obtain ⟨n, rfl⟩ : ∃ n', n = n' + 1 := ⟨n - 1, by omega⟩
    have hlt : decide ((j : Int) < ((r.length : Nat) : Int)) = false := decide_eq_false (by omega)
    simp only [L44_3_0, GL44_3_0, len_ints, e_on, e_lss, hlt, nxt]
  | succ cnt ih =>
    intro j n o h hj hn ho
    obtain ⟨n, rfl⟩ : ∃ n', n = n' + 1 := ⟨n - 1, by omega⟩
    have hlt : decide ((j : Int) < ((r.length : Nat) : Int)) = true := decide_eq_true (by omega)
    have h1 : j < r.length := by omega
    have h2 : j < d.length := by omega
    have h3 : i < d.length := by omega
    have st := isO_step ho hj h1
    simp only [L44_3_0, GL44_3_0, e_on, e_lss, hlt, len_ints, e_ix h1, e_ix h2, e_ix h3, e_ix hi, okE_ints h1, okE_ints h2, okE_ints h3, ci_ints, e_inc (show j < 4611686018427387904 by have := V.2.2.1; omega), nxt, e_lss, e_geq]
    cases e1 : decide (gI d j < gI d i) with
    | false =>
      have e : bet r d i o j = false := by unfold bet; rw [e1]
      rw [e, decide_eq_true (show gI d i ≤ gI d j by have := of_decide_eq_false e1; omega)]
      exact ih (j + 1) n o (by omega) (by omega) (by omega) ho
    | true =>
      rw [decide_eq_false (show ¬ gI d i ≤ gI d j by have := of_decide_eq_true e1; omega)]
      simp only
      cases e2 : decide (o < 0) with
      | true =>
        have e : bet r d i o j = true := by unfold bet; rw [e1, e2]
        rw [e] at st ⊢
        exact ih (j + 1) n j (by omega) (by omega) (by omega) st
      | false =>
        rcases ho with rfl | ⟨m, rfl, g1, g2, g3⟩
        · cases e2
        have h4 : m < d.length := by omega
        have ho : isO r d i (m : Int) := Or.inr ⟨m, rfl, g1, g2, g3⟩
        simp only [len_ints, e_ix h1, e_ix h2, e_ix h3, e_ix h4, e_ix g2, e_ix hi, okE_ints hi, okE_ints h1, okE_ints h2, okE_ints h3, okE_ints h4, okE_ints g2, ci_ints, V_sd V hi h1, V_sd V hi g2, V_sr V h1 hi, V_sr V g2 hi, F29_v, e_gtr, e_eql, e_lss]
        cases e3 : decide (0 < stv (gI d i - gI d j) (gI r j - gI r i) (gI d i - gI d m) (gI r m - gI r i)) with
        | true =>
          have e : bet r d i (m : Int) j = true := by unfold bet; rw [e1, e2]; simp only [Int.toNat_natCast, e3]
          rw [e] at st ⊢
          exact ih (j + 1) n j (by omega) (by omega) (by omega) st
        | false =>
          simp only
          cases e4 : decide (stv (gI d i - gI d j) (gI r j - gI r i) (gI d i - gI d m) (gI r m - gI r i) = 0) with
          | true =>
            simp only
            have e : bet r d i (m : Int) j = decide (gI d j < gI d m) := by unfold bet; rw [e1, e2]; simp only [Int.toNat_natCast, e3, e4]
            rw [e] at st ⊢
            cases e5 : decide (gI d j < gI d m) with
            | true => rw [e5] at st; exact ih (j + 1) n j (by omega) (by omega) (by omega) st
            | false => exact ih (j + 1) n m (by omega) (by omega) (by omega) ho
          | false =>
            simp only
            have e : bet r d i (m : Int) j = false := by unfold bet; rw [e1, e2]; simp only [Int.toNat_natCast, e3, e4]
            rw [e]
            exact ih (j + 1) n m (by omega) (by omega) (by omega) ho
end
def nats (p : List Nat) : IL := p.map fun (x : Nat) => (x : Int)
def tlp (r d : IL) : Nat → Nat → List Nat
  | 0, _ => []
  | f + 1, i => match decide (nxt r d i (r.length - (i + 1)) (i + 1) (-1) < 0) with
    | true => []
    | false => (nxt r d i (r.length - (i + 1)) (i + 1) (-1)).toNat :: tlp r d f (nxt r d i (r.length - (i + 1)) (i + 1) (-1)).toNat
def Chn (r d : IL) : Nat → List Nat → Prop
  | _, [] => True
  | a, b :: l => (a < b ∧ b < r.length ∧ gI d b < gI d a) ∧ Chn r d b l
theorem tlp_chn (r d : IL) : ∀ (f i : Nat), i < r.length → Chn r d i (tlp r d f i)
  | 0, i, _ => trivial
  | f + 1, i, h => by
    have ho : isO r d i (nxt r d i (r.length - (i + 1)) (i + 1) (-1)) := nxt_isO (Or.inl rfl) (by omega) (by omega)
    unfold tlp
    rcases ho with e | ⟨m, e, h1, h2, h3⟩
    · rw [e]; trivial
    · rw [e, decide_eq_false (show ¬ ((m : Int) < 0) by omega)]
      exact ⟨⟨h1, h2, h3⟩, tlp_chn r d f m h2⟩
theorem ints_app (a b : IL) : re.app (ints a) (ints b) = ints (a ++ b) := (List.map_append ..).symm
theorem ints_1 (x : Int) : [R.i .i64 x] = ints [x] := rfl
theorem small_ok {n b : Nat} (h : n * b ≤ 70368744177664) (h' : n ≤ 70368744177664) : re.small n b = true := decide_eq_true ⟨h', h⟩
section
variable {r d : IL} (V : VC r d)
include V
theorem F44_v {i : Nat} (hi : i < r.length) (k : Int → Option Unit) : F44_0 re rk 5000 (ints r) (ints d) (i : Int) k = k (nxt r d i (r.length - (i + 1)) (i + 1) (-1)) := by
  have hV := V.2.2.1
  unfold F44_0 G44_0
  rw [e_inc (show i < 4611686018427387904 by omega)]
  exact L44_v V (fun _ x => k x) hi _ (i + 1) 5000 (-1) (by omega) (by omega) (by omega) (Or.inl rfl)
theorem L28_v (k0 : List R → Option Unit) : ∀ (f n : Nat) (i : Nat) (l : IL), i < r.length → r.length ≤ i + 1 + f → f + 1 < n → l.length ≤ i →
    L28_5_0 re rk 5000 n k0 (ints r) (ints d) (ints l) (i : Int) = k0 (ints (l ++ nats (i :: tlp r d f i))) := by
  have hV := V.2.2.1
  have stop : ∀ (n : Nat) (l : IL), L28_5_0 re rk 5000 (n + 1) k0 (ints r) (ints d) (ints l) (-1) = k0 (ints l) := fun n l => rfl
  have go : ∀ (n i : Nat) (l : IL), i < r.length → l.length ≤ i → L28_5_0 re rk 5000 (n + 1) k0 (ints r) (ints d) (ints l) (i : Int) = L28_5_0 re rk 5000 n k0 (ints r) (ints d) (ints (l ++ [(i : Int)])) (nxt r d i (r.length - (i + 1)) (i + 1) (-1)) := by
    intro n i l hi hl
    have hs : re.small (re.len (re.app (ints l) [R.i .i64 (i : Int)])) 8 = true := by
      rw [ints_1, ints_app, len_ints]
      exact small_ok (by simp only [List.length_append, List.length_cons, List.length_nil]; omega) (by simp only [List.length_append, List.length_cons, List.length_nil]; omega)
    simp only [L28_5_0, GL28_5_0, e_geq, decide_eq_true (show (0 : Int) ≤ (i : Int) by omega), hs, F44_v V hi]
    rw [ints_1, ints_app]
  intro f
  induction f with
  | zero =>
    intro n i l hi h hn hl
    obtain ⟨n, rfl⟩ : ∃ n', n = n' + 2 := ⟨n - 2, by omega⟩
    rw [go (n + 1) i l hi hl, show r.length - (i + 1) = 0 by omega]
    exact stop n _
  | succ f ih =>
    intro n i l hi h hn hl
    obtain ⟨n, rfl⟩ : ∃ n', n = n' + 2 := ⟨n - 2, by omega⟩
    have ho : isO r d i (nxt r d i (r.length - (i + 1)) (i + 1) (-1)) := nxt_isO (Or.inl rfl) (by omega) (by omega)
    rw [go (n + 1) i l hi hl]
    unfold tlp
    rcases ho with e | ⟨m, e, h1, h2, h3⟩
    · rw [e]; exact stop n _
    · rw [e, decide_eq_false (show ¬ ((m : Int) < 0) by omega)]
      simp only [Int.toNat_natCast]
      rw [ih (n + 1) m (l ++ [(i : Int)]) h2 (by omega) (by omega) (by simp only [List.length_append, List.length_cons, List.length_nil]; omega)]
      simp [nats]
theorem F28_v (k : List R → Option Unit) : F28_0 re rk 5000 (ints r) (ints d) k = k (ints (nats (0 :: tlp r d r.length 0))) := by
  have h1 := V.2.1
  have hV := V.2.2.1
  unfold F28_0 G28_0
  simp only [F27_v, vc_yes V, e_bn, Bool.not_true]
  exact L28_v V (fun x => k x) r.length 5000 0 [] (by omega) (by omega) (by omega) (Nat.le_refl _)
end
end Go.Proofs.YtdjmknhhdkjklaaGreat
