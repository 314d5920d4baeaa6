/-
  The steps of all curves: listed, and put in order one after the other.
-/
import Derived.Test.YtdjmknhhdkjklaaGreat7c
set_option linter.unusedVariables false
set_option linter.unusedSimpArgs false
set_option maxRecDepth 100000
namespace Go.Proofs.YtdjmknhhdkjklaaGreat
open Go.Os
open Go.ChangeShapes Go.WideShapes Go.ChangeAt Go.RowKit
abbrev St := (Int × Int) × (Int × Int)
def gtT (x y : St) : Bool := gtS x.1 y.1
theorem weakT : Weak gtT := weak_map weakS Prod.fst
def stP (s : St) : R := .a [nI s.2.1, nI s.2.2, nI s.1.1, nI s.1.2]
def stQ (s : St) : R := .a [nI s.1.1, nI s.1.2, nI s.2.1, nI s.2.2]
def sp (l : List St) : List R := l.map stP
def sq (l : List St) : List R := l.map stQ
def gS (l : List St) (i : Nat) : St := l.getD i ((0, 0), (0, 0))
theorem gS_in {m : List St} {i : Nat} (h : i < m.length) : gS m i = m[i] := by
  show m.getD i _ = _
  rw [List.getD_eq_getElem?_getD, List.getElem?_eq_getElem h]; rfl
theorem len_sp (m : List St) : re.len (sp m) = m.length := List.length_map _
theorem len_sq (m : List St) : re.len (sq m) = m.length := List.length_map _
theorem sp_app (a b : List St) : re.app (sp a) (sp b) = sp (a ++ b) := (List.map_append ..).symm
theorem sq_app (a b : List St) : re.app (sq a) (sq b) = sq (a ++ b) := (List.map_append ..).symm
abbrev s4 : List Sh := [.i .i64, .i .i64, .i .i64, .i .i64]
theorem okE_sp {m : List St} {i : Nat} (h : i < m.length) : rk.okE [.i .i64, .i .i64, .i .i64, .i .i64] true (sp m) i = true := by
  show (match (sp m)[i]? with | some x => _ | none => false) = true
  unfold sp
  rw [List.getElem?_map, List.getElem?_eq_getElem h]; rfl
theorem okC_sp {m : List St} {i : Nat} (h : i < m.length) : rk.okC [.i .i64, .i .i64, .i .i64, .i .i64] (sp m) i 0 = true := by
  show (match (sp m)[i]? with | some x => _ | none => false) = true
  unfold sp
  rw [List.getElem?_map, List.getElem?_eq_getElem h]; rfl
theorem okE_sq {m : List St} {i : Nat} (h : i < m.length) : rk.okE [.i .i64, .i .i64, .i .i64, .i .i64] true (sq m) i = true := by
  show (match (sq m)[i]? with | some x => _ | none => false) = true
  unfold sq
  rw [List.getElem?_map, List.getElem?_eq_getElem h]; rfl
theorem okC_sq {m : List St} {i : Nat} (h : i < m.length) : rk.okC [.i .i64, .i .i64, .i .i64, .i .i64] (sq m) i 0 = true := by
  show (match (sq m)[i]? with | some x => _ | none => false) = true
  unfold sq
  rw [List.getElem?_map, List.getElem?_eq_getElem h]; rfl
theorem okC_sq0 {m : List St} {i : Nat} (h : i < m.length) : rk.okC [.i .i64] (sq m) i 0 = true := by
  show (match (sq m)[i]? with | some x => _ | none => false) = true
  unfold sq
  rw [List.getElem?_map, List.getElem?_eq_getElem h]; rfl
theorem okC_sq1 {m : List St} {i : Nat} (h : i < m.length) : rk.okC [.i .i64] (sq m) i 1 = true := by
  show (match (sq m)[i]? with | some x => _ | none => false) = true
  unfold sq
  rw [List.getElem?_map, List.getElem?_eq_getElem h]; rfl
theorem ci_sp {m : List St} {i : Nat} (h : i < m.length) : rk.ci (sp m) i 0 = m[i].2.1 ∧ rk.ci (sp m) i 1 = m[i].2.2 ∧ rk.ci (sp m) i 2 = m[i].1.1 ∧ rk.ci (sp m) i 3 = m[i].1.2 := by
  refine ⟨?_, ?_, ?_, ?_⟩ <;>
  · show rci (cellOf (sp m) i _) = _
    unfold cellOf sp
    rw [List.getElem?_map, List.getElem?_eq_getElem h]; rfl
theorem ci_sq {m : List St} {i : Nat} (h : i < m.length) : rk.ci (sq m) i 0 = m[i].1.1 ∧ rk.ci (sq m) i 1 = m[i].1.2 ∧ rk.ci (sq m) i 2 = m[i].2.1 ∧ rk.ci (sq m) i 3 = m[i].2.2 := by
  refine ⟨?_, ?_, ?_, ?_⟩ <;>
  · show rci (cellOf (sq m) i _) = _
    unfold cellOf sq
    rw [List.getElem?_map, List.getElem?_eq_getElem h]; rfl
def stO (c : Int) (r d : IL) : Nat → List Nat → List St
  | _, [] => []
  | a, b :: l => ((gI d a - gI d b, gI r b - gI r a), (c, (b : Int))) :: stO c r d b l
def okS (cs : CL) (s : St) : Prop := rngS s.1.1 s.1.2 = true ∧ ∃ i : Nat, s.2.1 = (i : Int) ∧ i < cs.length
theorem rngS_of {d r : Int} (h : 0 ≤ d) (h1 : d ≤ 70368744177664) (h2 : 0 ≤ r) (h3 : r ≤ 65535) : rngS d r = true := by
  unfold rngS
  simp only [e_leq, decide_eq_true h, decide_eq_true h1, decide_eq_true h2, decide_eq_true h3, Bool.and_self]
theorem stO_ok {r d : IL} (V : VC r d) (c : Int) : ∀ {l : List Nat} {a : Nat}, Chn r d a l → a < r.length → ∀ s ∈ stO c r d a l, rngS s.1.1 s.1.2 = true ∧ s.2.1 = c
  | [], _, _, _, s, hs => by cases hs
  | b :: l, a, ⟨⟨h1, h2, h3⟩, h⟩, ha, s, hs => by
    rcases List.mem_cons.1 hs with rfl | hs
    · refine ⟨?_, rfl⟩
      have e1 := V_d V ha
      have e2 := V_d V h2
      have e3 := V_r V ha
      have e4 := V_r V h2
      have e5 := V_m V (show a ≤ b by omega) h2
      exact rngS_of (by simp only; omega) (by simp only; omega) (by simp only; omega) (by simp only; omega)
    · exact stO_ok V c h h2 s hs
theorem Chn_len {r d : IL} : ∀ {l : List Nat} {a : Nat}, Chn r d a l → a < r.length → a + l.length < r.length
  | [], _, _, h => h
  | b :: l, a, ⟨⟨h1, h2, h3⟩, h⟩, ha => by
    have := Chn_len h h2
    simp only [List.length_cons]; omega
theorem stO_len (c : Int) (r d : IL) : ∀ (l : List Nat) (a : Nat), (stO c r d a l).length = l.length
  | [], _ => rfl
  | b :: l, a => by simp only [stO, List.length_cons, stO_len c r d l b]
noncomputable def crv (cs : CL) (i : Nat) : List St := stO (i : Int) (gC cs i).1 (gC cs i).2 0 (tlp (gC cs i).1 (gC cs i).2 (gC cs i).1.length 0)
noncomputable def allS (cs : CL) : Nat → Nat → List St
  | 0, _ => []
  | c + 1, j => crv cs j ++ allS cs c (j + 1)
theorem nats_len (l : List Nat) : (nats l).length = l.length := List.length_map _
theorem gI_mid (pre : List Nat) (b : Nat) (s : List Nat) : gI (nats (pre ++ b :: s)) pre.length = (b : Int) := by
  rw [gI_in (by rw [nats_len]; simp)]
  simp [nats]
theorem gI_mid' (pre : List Nat) (a b : Nat) (s : List Nat) : gI (nats (pre ++ a :: b :: s)) (pre.length + 1) = (b : Int) := by
  rw [gI_in (by rw [nats_len]; simp)]
  simp [nats]
theorem row_sp (c t f b : Int) : [R.a [R.i .i64 c, R.i .i64 t, R.i .i64 f, R.i .i64 b]] = sp [((f, b), (c, t))] := rfl
theorem row_sq (c t f b : Int) : R.a [R.i .i64 f, R.i .i64 b, R.i .i64 c, R.i .i64 t] = stQ ((f, b), (c, t)) := rfl
theorem app_len (a b : List St) : (a ++ b).length = a.length + b.length := List.length_append
theorem crv_len {cs : CL} {j : Nat} (V : VC (gC cs j).1 (gC cs j).2) : (crv cs j).length < (gC cs j).1.length := by
  have h1 := V.2.1
  have := Chn_len (tlp_chn (gC cs j).1 (gC cs j).2 (gC cs j).1.length 0 (by omega)) (by omega)
  unfold crv
  rw [stO_len]; omega
section
variable {cs : CL} (V : ∀ i, i < cs.length → VC (gC cs i).1 (gC cs i).2) (hc : cs.length ≤ 40) (hm : ∀ i, i < cs.length → (gC cs i).1.length ≤ 40)
include V hc hm
end
section
variable {cs : CL} (V : ∀ i, i < cs.length → VC (gC cs i).1 (gC cs i).2)
include V
theorem allS_ok : ∀ (cnt j : Nat), j + cnt = cs.length → ∀ s ∈ allS cs cnt j, okS cs s
  | 0, _, _, s, hs => by cases hs
  | cnt + 1, j, h, s, hs => by
    rcases List.mem_append.1 hs with hs | hs
    · have Vj := V j (by omega)
      have h2 := Vj.2.1
      have := stO_ok Vj (j : Int) (tlp_chn (gC cs j).1 (gC cs j).2 (gC cs j).1.length 0 (by omega)) (by omega) s hs
      exact ⟨this.1, j, this.2, by omega⟩
    · exact allS_ok cnt (j + 1) (by omega) s hs
theorem allS_len (hm : ∀ i, i < cs.length → (gC cs i).1.length ≤ 40) : ∀ (cnt j : Nat), j + cnt = cs.length → (allS cs cnt j).length ≤ 40 * cnt
  | 0, _, _ => Nat.zero_le _
  | cnt + 1, j, h => by
    have := allS_len hm cnt (j + 1) (by omega)
    have hcr := crv_len (V j (by omega))
    have := hm j (by omega)
    show (crv cs j ++ allS cs cnt (j + 1)).length ≤ _
    rw [app_len]; omega
end
def posB (P : Nat → Bool) : Nat → Nat
  | 0 => 0
  | a + 1 => match P a with
    | true => posB P a
    | false => a + 1
theorem posB_le (P : Nat → Bool) : ∀ n, posB P n ≤ n
  | 0 => Nat.le_refl _
  | a + 1 => by
    unfold posB
    cases P a with
    | true => have := posB_le P a; exact Nat.le_succ_of_le this
    | false => exact Nat.le_refl _
theorem posB_shift (P : Nat → Bool) : ∀ a, posB P (a + 1) = match posB (fun i => P (i + 1)) a with
    | 0 => (match P 0 with | true => 0 | false => 1)
    | m + 1 => m + 2
  | 0 => by
    show (match P 0 with | true => posB P 0 | false => 0 + 1) = _
    rfl
  | a + 1 => by
    have ih := posB_shift P a
    rw [posB]
    show _ = match (match P (a + 1) with | true => posB (fun i => P (i + 1)) a | false => a + 1) with
      | 0 => (match P 0 with | true => 0 | false => 1)
      | m + 1 => m + 2
    cases P (a + 1) with
    | true => exact ih
    | false => rfl
theorem posB_congr {P Q : Nat → Bool} : ∀ {n : Nat}, (∀ i, i < n → P i = Q i) → posB P n = posB Q n
  | 0, _ => rfl
  | n + 1, h => by
    unfold posB
    rw [h n (by omega), posB_congr (n := n) fun i hi => h i (by omega)]
theorem posB_ins {α : Type} {g : α → α → Bool} (w : Weak g) (s : α) : ∀ (l : List α), SortedS g l → ∀ (P : Nat → Bool), (∀ i (h : i < l.length), P i = g s l[i]) →
    l.take (posB P l.length) ++ s :: l.drop (posB P l.length) = insS g s l
  | [], _, P, _ => rfl
  | x :: l, hs, P, hP => by
    have ih := posB_ins w s l hs.2 (fun i => P (i + 1)) (fun i h => hP (i + 1) (by simp only [List.length_cons]; omega))
    have h0 : P 0 = g s x := hP 0 (by simp)
    show (x :: l).take (posB P (l.length + 1)) ++ s :: (x :: l).drop (posB P (l.length + 1)) = match g s x with | true => s :: x :: l | false => x :: insS g s l
    rw [posB_shift, h0]
    cases e : g s x with
    | true =>
      have z : ∀ n, n ≤ l.length → posB (fun i => P (i + 1)) n = 0 := by
        intro n
        induction n with
        | zero => intro _; rfl
        | succ n ihn =>
          intro hn
          unfold posB
          have h1 : P (n + 1) = g s l[n] := hP (n + 1) (by simp only [List.length_cons]; omega)
          have h2 : g s l[n] = true := by
            cases e2 : g s l[n] with
            | true => rfl
            | false =>
              have := w.neg _ _ _ e2 (hs.1 l[n] (List.getElem_mem _))
              rw [e] at this; cases this
          rw [h1, h2]
          exact ihn (by omega)
      rw [z l.length (Nat.le_refl _)]
      rfl
    | false =>
      rw [← ih]
      cases posB (fun i => P (i + 1)) l.length with
      | zero => rfl
      | succ m => rfl
theorem move_up {α : Type} (l : List α) (z : α) (a : Nat) (h : a ≤ l.length) :
    (l ++ [z]).take (a + 1) ++ (((((l ++ [z]).drop a).take ((l ++ [z]).length - a)).drop 0).take (min (((l ++ [z]).drop a).take ((l ++ [z]).length - a)).length ((l ++ [z]).length - (a + 1)))) ++ (l ++ [z]).drop (a + 1 + (((((l ++ [z]).drop a).take ((l ++ [z]).length - a)).drop 0).take (min (((l ++ [z]).drop a).take ((l ++ [z]).length - a)).length ((l ++ [z]).length - (a + 1)))).length) = (l ++ [z]).take (a + 1) ++ l.drop a := by
  have e1 : (l ++ [z]).length = l.length + 1 := by simp
  have e2 : ((l ++ [z]).drop a).take ((l ++ [z]).length - a) = l.drop a ++ [z] := by
    rw [List.take_of_length_le (by simp), List.drop_append_of_le_length h]
  rw [e2]
  have e3 : ((l.drop a ++ [z]).drop 0).take (min (l.drop a ++ [z]).length ((l ++ [z]).length - (a + 1))) = l.drop a := by
    rw [List.drop_zero, e1, show min (l.drop a ++ [z]).length (l.length + 1 - (a + 1)) = (l.drop a).length by simp only [List.length_append, List.length_drop, List.length_cons, List.length_nil]; omega]
    simp
  rw [e3]
  have e4 : (l ++ [z]).drop (a + 1 + (l.drop a).length) = [] := List.drop_eq_nil_of_le (by simp; omega)
  rw [e4, List.append_nil]
theorem move_set {α : Type} (l : List α) (z s : α) (a : Nat) (h : a ≤ l.length) : ((l ++ [z]).take (a + 1) ++ l.drop a).set a s = l.take a ++ s :: l.drop a := by
  obtain ⟨y, hy⟩ : ∃ y, (l ++ [z]).take (a + 1) = l.take a ++ [y] := by
    refine ⟨(l ++ [z])[a]'(by simp; omega), ?_⟩
    rw [List.take_succ_eq_append_getElem (by simp; omega), List.take_append_of_le_length h]
  rw [hy, List.append_assoc, List.set_append_right _ _ (by rw [List.length_take]; omega)]
  simp [Nat.min_eq_left h, Nat.min_le_left]
end Go.Proofs.YtdjmknhhdkjklaaGreat
