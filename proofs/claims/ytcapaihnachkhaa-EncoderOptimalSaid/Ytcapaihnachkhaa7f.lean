/-
  The program's sort: halves are sorted and merged.
-/
import Derived.Test.Ytcapaihnachkhaa7e
set_option linter.unusedVariables false
set_option linter.unusedSimpArgs false
set_option maxRecDepth 100000
namespace Go.Proofs.Ytcapaihnachkhaa
open Go.Os
open Go.ChangeShapes Go.WideShapes Go.ChangeAt Go.RowKit
theorem m_gt (x : St) (l : List St) : re.cm .gtr (re.on (re.len (sp (x :: l)))) 0 = true := decide_eq_true (by simp only [e_on, len_sp, List.length_cons]; omega)
theorem m_gt0 : re.cm .gtr (re.on (re.len (sp []))) 0 = false := rfl
theorem m_ix (x : St) (l : List St) : re.ix 0 (re.len (sp (x :: l))) = some 0 := by rw [len_sp]; exact e_ix (j := 0) (Nat.succ_pos _)
theorem m_okE (x : St) (l : List St) : rk.okE [.i .i64, .i .i64, .i .i64, .i .i64] true (sp (x :: l)) 0 = true := rfl
theorem m_okC (x : St) (l : List St) : rk.okC [.i .i64, .i .i64, .i .i64, .i .i64] (sp (x :: l)) 0 0 = true := rfl
theorem m_0 (x : St) (l : List St) : rk.ci (sp (x :: l)) 0 0 = x.2.1 := rfl
theorem m_1 (x : St) (l : List St) : rk.ci (sp (x :: l)) 0 1 = x.2.2 := rfl
theorem m_2 (x : St) (l : List St) : rk.ci (sp (x :: l)) 0 2 = x.1.1 := rfl
theorem m_3 (x : St) (l : List St) : rk.ci (sp (x :: l)) 0 3 = x.1.2 := rfl
theorem m_sx (x : St) (l : List St) : re.sx 1 (re.len (sp (x :: l))) = some 1 := by
  rw [len_sp]
  show (if 0 ≤ (1 : Int) ∧ (1 : Int) ≤ (((x :: l).length : Nat) : Int) then some (1 : Int).toNat else none) = some 1
  rw [if_pos (by simp only [List.length_cons]; omega)]; rfl
theorem m_seg (x : St) (l : List St) : re.seg (sp (x :: l)) 1 (re.sub (re.len (sp (x :: l))) 1) = sp l := by
  show ((sp (x :: l)).drop 1).take ((sp (x :: l)).length - 1) = sp l
  show (sp l).take ((sp (x :: l)).length - 1) = sp l
  exact List.take_of_length_le (by simp [sp])
theorem m_row (x : St) : [R.a [R.i .i64 x.2.1, R.i .i64 x.2.2, R.i .i64 x.1.1, R.i .i64 x.1.2]] = sp [x] := rfl
theorem m_sm {o : List St} (x : St) (h : o.length ≤ 100000) : re.small (re.len (sp (o ++ [x]))) 32 = true := by
  rw [len_sp]
  exact small_ok (by simp only [List.length_append, List.length_cons, List.length_nil]; omega) (by simp only [List.length_append, List.length_cons, List.length_nil]; omega)
theorem F109_v {x y : St} (hx : rngT x) (hy : rngT y) (k : Bool → Option Unit) : F109_0 re rk 5000 x.2.1 x.2.2 x.1.1 x.1.2 y.2.1 y.2.2 y.1.1 y.1.2 k = k (gtT x y) := by
  unfold F109_0 G109_0
  rw [F110_v, stv_gt hx hy]
  rfl
theorem mergeS_nil {α : Type} (g : α → α → Bool) (b : List α) : mergeS g [] b = b := by rw [mergeS]
theorem mergeS_nil' {α : Type} (g : α → α → Bool) (x : α) (a : List α) : mergeS g (x :: a) [] = x :: a := by rw [mergeS]
theorem mergeS_cons {α : Type} (g : α → α → Bool) (x : α) (a : List α) (y : α) (b : List α) : mergeS g (x :: a) (y :: b) = match g y x with | true => y :: mergeS g (x :: a) b | false => x :: mergeS g a (y :: b) := by
  rw [mergeS]
  cases g y x <;> rfl
def Mrg (K : List R → List R → List R → Option Unit) (L : List R → List R → List R → Option Unit) (a b o : List St) : Prop :=
  ∃ a' b' o' : List St, (o' ++ a') ++ b' = o ++ mergeS gtT a b ∧ L (sp a) (sp b) (sp o) = K (sp a') (sp b') (sp o')
theorem Mrg_t {K L : List R → List R → List R → Option Unit} {x y : St} {a b o : List St} (e : gtT y x = true) {L' : List R → List R → List R → Option Unit} (h : Mrg K L' (x :: a) b (o ++ [y])) (hl : L (sp (x :: a)) (sp (y :: b)) (sp o) = L' (sp (x :: a)) (sp b) (sp (o ++ [y]))) : Mrg K L (x :: a) (y :: b) o := by
  obtain ⟨a', b', o', h1, h2⟩ := h
  refine ⟨a', b', o', ?_, hl.trans h2⟩
  rw [h1, mergeS_cons, e]
  simp
theorem Mrg_f {K L : List R → List R → List R → Option Unit} {x y : St} {a b o : List St} (e : gtT y x = false) {L' : List R → List R → List R → Option Unit} (h : Mrg K L' a (y :: b) (o ++ [x])) (hl : L (sp (x :: a)) (sp (y :: b)) (sp o) = L' (sp a) (sp (y :: b)) (sp (o ++ [x]))) : Mrg K L (x :: a) (y :: b) o := by
  obtain ⟨a', b', o', h1, h2⟩ := h
  refine ⟨a', b', o', ?_, hl.trans h2⟩
  rw [h1, mergeS_cons, e]
  simp
theorem L108_5_v (K : List R → List R → List R → Option Unit) : ∀ (m n : Nat) (a b o : List St), a.length + b.length = m → m < n → o.length + m ≤ 100000 → (∀ s ∈ a, rngT s) → (∀ s ∈ b, rngT s) →
    Mrg K (L108_5_0 re rk 5000 n K) a b o := by
  intro m
  induction m with
  | zero =>
    intro n a b o h hn ho ha hb
    obtain ⟨n, rfl⟩ : ∃ n', n = n' + 1 := ⟨n - 1, by omega⟩
    cases a with
    | cons x a => simp only [List.length_cons] at h; omega
    | nil => exact ⟨[], b, o, by rw [mergeS_nil, List.append_nil], rfl⟩
  | succ m ih =>
    intro n a b o h hn ho ha hb
    obtain ⟨n, rfl⟩ : ∃ n', n = n' + 1 := ⟨n - 1, by omega⟩
    cases a with
    | nil => exact ⟨[], b, o, by rw [mergeS_nil, List.append_nil], rfl⟩
    | cons x a => cases b with
      | nil => exact ⟨x :: a, [], o, by rw [mergeS_nil', List.append_nil], by simp only [L108_5_0, GL108_5_0, m_gt, m_gt0]⟩
      | cons y b =>
        simp only [List.length_cons] at h
        have hx := ha x (List.mem_cons_self ..)
        have hy := hb y (List.mem_cons_self ..)
        have i1 := ih n (x :: a) b (o ++ [y]) (by simp only [List.length_cons]; omega) (by omega) (by simp only [List.length_append, List.length_cons, List.length_nil]; omega) ha (fun s hs => hb s (List.mem_cons_of_mem _ hs))
        have i2 := ih n a (y :: b) (o ++ [x]) (by simp only [List.length_cons]; omega) (by omega) (by simp only [List.length_append, List.length_cons, List.length_nil]; omega) (fun s hs => ha s (List.mem_cons_of_mem _ hs)) hb
        cases e : gtT y x with
        | true =>
          exact Mrg_t e i1 (by simp only [L108_5_0, GL108_5_0, m_gt, m_ix, m_okE, m_okC, m_0, m_1, m_2, m_3, m_sx, m_seg, m_row, F109_v hy hx, e, m_sm _ (show o.length ≤ 100000 by omega), sp_app])
        | false =>
          exact Mrg_f e i2 (by simp only [L108_5_0, GL108_5_0, m_gt, m_ix, m_okE, m_okC, m_0, m_1, m_2, m_3, m_sx, m_seg, m_row, F109_v hy hx, e, m_sm _ (show o.length ≤ 100000 by omega), sp_app])
theorem L108_5t1_v (K : List R → List R → List R → Option Unit) : ∀ (m n : Nat) (a b o : List St), a.length + b.length = m → m < n → o.length + m ≤ 100000 → (∀ s ∈ a, rngT s) → (∀ s ∈ b, rngT s) →
    Mrg K (L108_5t1_0 re rk 5000 n K K) a b o ∧ Mrg K (L108_5t1_1 re rk 5000 n K K) a b o := by
  intro m
  induction m with
  | zero =>
    intro n a b o h hn ho ha hb
    obtain ⟨n, rfl⟩ : ∃ n', n = n' + 1 := ⟨n - 1, by omega⟩
    cases a with
    | cons x a => simp only [List.length_cons] at h; omega
    | nil => exact ⟨⟨[], b, o, by rw [mergeS_nil, List.append_nil], rfl⟩, ⟨[], b, o, by rw [mergeS_nil, List.append_nil], rfl⟩⟩
  | succ m ih =>
    intro n a b o h hn ho ha hb
    obtain ⟨n, rfl⟩ : ∃ n', n = n' + 1 := ⟨n - 1, by omega⟩
    cases a with
    | nil => exact ⟨⟨[], b, o, by rw [mergeS_nil, List.append_nil], rfl⟩, ⟨[], b, o, by rw [mergeS_nil, List.append_nil], rfl⟩⟩
    | cons x a => cases b with
      | nil => exact ⟨⟨x :: a, [], o, by rw [mergeS_nil', List.append_nil], by simp only [L108_5t1_0, GL108_5t1_0, m_gt, m_gt0]⟩, ⟨x :: a, [], o, by rw [mergeS_nil', List.append_nil], by simp only [L108_5t1_1, GL108_5t1_1, m_gt, m_gt0]⟩⟩
      | cons y b =>
        simp only [List.length_cons] at h
        have hx := ha x (List.mem_cons_self ..)
        have hy := hb y (List.mem_cons_self ..)
        have i1 := ih n (x :: a) b (o ++ [y]) (by simp only [List.length_cons]; omega) (by omega) (by simp only [List.length_append, List.length_cons, List.length_nil]; omega) ha (fun s hs => hb s (List.mem_cons_of_mem _ hs))
        have i2 := ih n a (y :: b) (o ++ [x]) (by simp only [List.length_cons]; omega) (by omega) (by simp only [List.length_append, List.length_cons, List.length_nil]; omega) (fun s hs => ha s (List.mem_cons_of_mem _ hs)) hb
        cases e : gtT y x with
        | true =>
          exact ⟨Mrg_t e i1.2 (by simp only [L108_5t1_0, GL108_5t1_0, m_gt, m_ix, m_okE, m_okC, m_0, m_1, m_2, m_3, m_sx, m_seg, m_row, F109_v hy hx, e, m_sm _ (show o.length ≤ 100000 by omega), sp_app]),
            Mrg_t e i1.2 (by simp only [L108_5t1_1, GL108_5t1_1, m_gt, m_ix, m_okE, m_okC, m_0, m_1, m_2, m_3, m_sx, m_seg, m_row, F109_v hy hx, e, m_sm _ (show o.length ≤ 100000 by omega), sp_app])⟩
        | false =>
          exact ⟨Mrg_f e i2.1 (by simp only [L108_5t1_0, GL108_5t1_0, m_gt, m_ix, m_okE, m_okC, m_0, m_1, m_2, m_3, m_sx, m_seg, m_row, F109_v hy hx, e, m_sm _ (show o.length ≤ 100000 by omega), sp_app]),
            Mrg_f e i2.2 (by simp only [L108_5t1_1, GL108_5t1_1, m_gt, m_ix, m_okE, m_okC, m_0, m_1, m_2, m_3, m_sx, m_seg, m_row, F109_v hy hx, e, m_sm _ (show o.length ≤ 100000 by omega), sp_app])⟩
theorem L108_5t2_v (K : List R → List R → List R → Option Unit) : ∀ (m n : Nat) (a b o : List St), a.length + b.length = m → m < n → o.length + m ≤ 100000 → (∀ s ∈ a, rngT s) → (∀ s ∈ b, rngT s) →
    Mrg K (L108_5t2_0 re rk 5000 n K K) a b o ∧ Mrg K (L108_5t2_1 re rk 5000 n K K) a b o := by
  intro m
  induction m with
  | zero =>
    intro n a b o h hn ho ha hb
    obtain ⟨n, rfl⟩ : ∃ n', n = n' + 1 := ⟨n - 1, by omega⟩
    cases a with
    | cons x a => simp only [List.length_cons] at h; omega
    | nil => exact ⟨⟨[], b, o, by rw [mergeS_nil, List.append_nil], rfl⟩, ⟨[], b, o, by rw [mergeS_nil, List.append_nil], rfl⟩⟩
  | succ m ih =>
    intro n a b o h hn ho ha hb
    obtain ⟨n, rfl⟩ : ∃ n', n = n' + 1 := ⟨n - 1, by omega⟩
    cases a with
    | nil => exact ⟨⟨[], b, o, by rw [mergeS_nil, List.append_nil], rfl⟩, ⟨[], b, o, by rw [mergeS_nil, List.append_nil], rfl⟩⟩
    | cons x a => cases b with
      | nil => exact ⟨⟨x :: a, [], o, by rw [mergeS_nil', List.append_nil], by simp only [L108_5t2_0, GL108_5t2_0, m_gt, m_gt0]⟩, ⟨x :: a, [], o, by rw [mergeS_nil', List.append_nil], by simp only [L108_5t2_1, GL108_5t2_1, m_gt, m_gt0]⟩⟩
      | cons y b =>
        simp only [List.length_cons] at h
        have hx := ha x (List.mem_cons_self ..)
        have hy := hb y (List.mem_cons_self ..)
        have i1 := ih n (x :: a) b (o ++ [y]) (by simp only [List.length_cons]; omega) (by omega) (by simp only [List.length_append, List.length_cons, List.length_nil]; omega) ha (fun s hs => hb s (List.mem_cons_of_mem _ hs))
        have i2 := ih n a (y :: b) (o ++ [x]) (by simp only [List.length_cons]; omega) (by omega) (by simp only [List.length_append, List.length_cons, List.length_nil]; omega) (fun s hs => ha s (List.mem_cons_of_mem _ hs)) hb
        cases e : gtT y x with
        | true =>
          exact ⟨Mrg_t e i1.1 (by simp only [L108_5t2_0, GL108_5t2_0, m_gt, m_ix, m_okE, m_okC, m_0, m_1, m_2, m_3, m_sx, m_seg, m_row, F109_v hy hx, e, m_sm _ (show o.length ≤ 100000 by omega), sp_app]),
            Mrg_t e i1.2 (by simp only [L108_5t2_1, GL108_5t2_1, m_gt, m_ix, m_okE, m_okC, m_0, m_1, m_2, m_3, m_sx, m_seg, m_row, F109_v hy hx, e, m_sm _ (show o.length ≤ 100000 by omega), sp_app])⟩
        | false =>
          exact ⟨Mrg_f e i2.2 (by simp only [L108_5t2_0, GL108_5t2_0, m_gt, m_ix, m_okE, m_okC, m_0, m_1, m_2, m_3, m_sx, m_seg, m_row, F109_v hy hx, e, m_sm _ (show o.length ≤ 100000 by omega), sp_app]),
            Mrg_f e i2.2 (by simp only [L108_5t2_1, GL108_5t2_1, m_gt, m_ix, m_okE, m_okC, m_0, m_1, m_2, m_3, m_sx, m_seg, m_row, F109_v hy hx, e, m_sm _ (show o.length ≤ 100000 by omega), sp_app])⟩
theorem L108_5t3_v (K : List R → List R → List R → Option Unit) : ∀ (m n : Nat) (a b o : List St), a.length + b.length = m → m < n → o.length + m ≤ 100000 → (∀ s ∈ a, rngT s) → (∀ s ∈ b, rngT s) →
    Mrg K (L108_5t3_0 re rk 5000 n K K K K) a b o ∧ Mrg K (L108_5t3_1 re rk 5000 n K K K K) a b o ∧ Mrg K (L108_5t3_2 re rk 5000 n K K K K) a b o ∧ Mrg K (L108_5t3_3 re rk 5000 n K K K K) a b o := by
  intro m
  induction m with
  | zero =>
    intro n a b o h hn ho ha hb
    obtain ⟨n, rfl⟩ : ∃ n', n = n' + 1 := ⟨n - 1, by omega⟩
    cases a with
    | cons x a => simp only [List.length_cons] at h; omega
    | nil => exact ⟨⟨[], b, o, by rw [mergeS_nil, List.append_nil], rfl⟩, ⟨[], b, o, by rw [mergeS_nil, List.append_nil], rfl⟩, ⟨[], b, o, by rw [mergeS_nil, List.append_nil], rfl⟩, ⟨[], b, o, by rw [mergeS_nil, List.append_nil], rfl⟩⟩
  | succ m ih =>
    intro n a b o h hn ho ha hb
    obtain ⟨n, rfl⟩ : ∃ n', n = n' + 1 := ⟨n - 1, by omega⟩
    cases a with
    | nil => exact ⟨⟨[], b, o, by rw [mergeS_nil, List.append_nil], rfl⟩, ⟨[], b, o, by rw [mergeS_nil, List.append_nil], rfl⟩, ⟨[], b, o, by rw [mergeS_nil, List.append_nil], rfl⟩, ⟨[], b, o, by rw [mergeS_nil, List.append_nil], rfl⟩⟩
    | cons x a => cases b with
      | nil => exact ⟨⟨x :: a, [], o, by rw [mergeS_nil', List.append_nil], by simp only [L108_5t3_0, GL108_5t3_0, m_gt, m_gt0]⟩, ⟨x :: a, [], o, by rw [mergeS_nil', List.append_nil], by simp only [L108_5t3_1, GL108_5t3_1, m_gt, m_gt0]⟩, ⟨x :: a, [], o, by rw [mergeS_nil', List.append_nil], by simp only [L108_5t3_2, GL108_5t3_2, m_gt, m_gt0]⟩, ⟨x :: a, [], o, by rw [mergeS_nil', List.append_nil], by simp only [L108_5t3_3, GL108_5t3_3, m_gt, m_gt0]⟩⟩
      | cons y b =>
        simp only [List.length_cons] at h
        have hx := ha x (List.mem_cons_self ..)
        have hy := hb y (List.mem_cons_self ..)
        have i1 := ih n (x :: a) b (o ++ [y]) (by simp only [List.length_cons]; omega) (by omega) (by simp only [List.length_append, List.length_cons, List.length_nil]; omega) ha (fun s hs => hb s (List.mem_cons_of_mem _ hs))
        have i2 := ih n a (y :: b) (o ++ [x]) (by simp only [List.length_cons]; omega) (by omega) (by simp only [List.length_append, List.length_cons, List.length_nil]; omega) (fun s hs => ha s (List.mem_cons_of_mem _ hs)) hb
        cases e : gtT y x with
        | true =>
          exact ⟨Mrg_t e i1.2.1 (by simp only [L108_5t3_0, GL108_5t3_0, m_gt, m_ix, m_okE, m_okC, m_0, m_1, m_2, m_3, m_sx, m_seg, m_row, F109_v hy hx, e, m_sm _ (show o.length ≤ 100000 by omega), sp_app]),
            Mrg_t e i1.2.1 (by simp only [L108_5t3_1, GL108_5t3_1, m_gt, m_ix, m_okE, m_okC, m_0, m_1, m_2, m_3, m_sx, m_seg, m_row, F109_v hy hx, e, m_sm _ (show o.length ≤ 100000 by omega), sp_app]),
            Mrg_t e i1.2.2.2 (by simp only [L108_5t3_2, GL108_5t3_2, m_gt, m_ix, m_okE, m_okC, m_0, m_1, m_2, m_3, m_sx, m_seg, m_row, F109_v hy hx, e, m_sm _ (show o.length ≤ 100000 by omega), sp_app]),
            Mrg_t e i1.2.2.2 (by simp only [L108_5t3_3, GL108_5t3_3, m_gt, m_ix, m_okE, m_okC, m_0, m_1, m_2, m_3, m_sx, m_seg, m_row, F109_v hy hx, e, m_sm _ (show o.length ≤ 100000 by omega), sp_app])⟩
        | false =>
          exact ⟨Mrg_f e i2.2.2.1 (by simp only [L108_5t3_0, GL108_5t3_0, m_gt, m_ix, m_okE, m_okC, m_0, m_1, m_2, m_3, m_sx, m_seg, m_row, F109_v hy hx, e, m_sm _ (show o.length ≤ 100000 by omega), sp_app]),
            Mrg_f e i2.2.2.2 (by simp only [L108_5t3_1, GL108_5t3_1, m_gt, m_ix, m_okE, m_okC, m_0, m_1, m_2, m_3, m_sx, m_seg, m_row, F109_v hy hx, e, m_sm _ (show o.length ≤ 100000 by omega), sp_app]),
            Mrg_f e i2.2.2.1 (by simp only [L108_5t3_2, GL108_5t3_2, m_gt, m_ix, m_okE, m_okC, m_0, m_1, m_2, m_3, m_sx, m_seg, m_row, F109_v hy hx, e, m_sm _ (show o.length ≤ 100000 by omega), sp_app]),
            Mrg_f e i2.2.2.2 (by simp only [L108_5t3_3, GL108_5t3_3, m_gt, m_ix, m_okE, m_okC, m_0, m_1, m_2, m_3, m_sx, m_seg, m_row, F109_v hy hx, e, m_sm _ (show o.length ≤ 100000 by omega), sp_app])⟩
noncomputable def srt (l : List St) : List St := insL gtT [] l
theorem srt_mem {l : List St} {s : St} (h : s ∈ srt l) : s ∈ l := by
  rcases insL_mem h with h | h
  · cases h
  · exact h
theorem mkn_ok {n b : Nat} (h : n * b ≤ 70368744177664) (h' : n ≤ 70368744177664) : re.mkn (n : Int) b = some n := by
  show (if 0 ≤ (n : Int) ∧ (n : Int) ≤ 70368744177664 ∧ (n : Int) * (b : Int) ≤ 70368744177664 then some (n : Int).toNat else none) = some n
  have h2 : (n : Int) * (b : Int) ≤ 70368744177664 := by rw [← Int.natCast_mul]; omega
  rw [if_pos ⟨by omega, by omega, h2⟩]; rfl
theorem sp_take (l : List St) (h : Nat) : re.seg (sp l) 0 (re.sub h 0) = sp (l.take h) := by
  show ((sp l).drop 0).take (h - 0) = _
  rw [List.drop_zero, Nat.sub_zero]; exact List.map_take.symm
theorem sp_drop (l : List St) (h : Nat) : re.seg (sp l) h (re.sub l.length h) = sp (l.drop h) := by
  show ((sp l).drop h).take (l.length - h) = _
  rw [List.take_of_length_le (by simp [sp])]; exact List.map_drop.symm
theorem quo2 (n : Nat) (h : n < 4611686018427387904) : re.ar .quo .i64 (n : Int) 2 = ((n / 2 : Nat) : Int) := by
  show IntKind.wrap .i64 ((n : Int).tdiv 2) = _
  rw [show (n : Int).tdiv 2 = ((n / 2 : Nat) : Int) from rfl]
  exact wrap64 (by omega) (by omega)
theorem sx_ok {a n : Nat} (h : a ≤ n) : re.sx (a : Int) n = some a := by
  show (if 0 ≤ (a : Int) ∧ (a : Int) ≤ (n : Int) then some (a : Int).toNat else none) = some a
  rw [if_pos (by omega)]; rfl
theorem srt_len (l : List St) : (srt l).length = l.length := by unfold srt; rw [insL_len]; simp
theorem mergeS_len (a b : List St) : ∀ n, a.length + b.length = n → (mergeS gtT a b).length = n := by
  intro n
  induction n generalizing a b with
  | zero =>
    intro h
    cases a with
    | cons x a => simp only [List.length_cons] at h; omega
    | nil => rw [mergeS_nil]; simpa using h
  | succ n ih =>
    intro h
    cases a with
    | nil => rw [mergeS_nil]; simpa using h
    | cons x a => cases b with
      | nil => rw [mergeS_nil']; simpa using h
      | cons y b =>
        simp only [List.length_cons] at h
        rw [mergeS_cons]
        cases gtT y x with
        | true => simp only [List.length_cons, ih (x :: a) b (by simp only [List.length_cons]; omega)]
        | false => simp only [List.length_cons, ih a (y :: b) (by simp only [List.length_cons]; omega)]
def aft (k1 : List R → Option Unit) (x y z : List R) : Option Unit :=
  match re.small (re.len (re.app z x)) 32 with
  | true => (match re.small (re.len (re.app (re.app z x) y)) 32 with
    | true => k1 (re.app (re.app z x) y)
    | false => none)
  | false => none
theorem aft_v (k1 : List R → Option Unit) {L : List R → List R → List R → Option Unit} {a b : List St} (h : Mrg (aft k1) L a b []) (hl : a.length + b.length ≤ 100000) : L (sp a) (sp b) (sp []) = k1 (sp (mergeS gtT a b)) := by
  obtain ⟨a', b', o', h1, h2⟩ := h
  rw [h2]
  rw [List.nil_append] at h1
  have hn := congrArg List.length h1
  rw [mergeS_len a b _ rfl] at hn
  simp only [List.length_append] at hn
  have s1 : re.small (re.len (sp (o' ++ a'))) 32 = true := by
    rw [len_sp, List.length_append]; exact small_ok (by omega) (by omega)
  have s2 : re.small (re.len (sp ((o' ++ a') ++ b'))) 32 = true := by
    rw [len_sp, List.length_append, List.length_append]; exact small_ok (by omega) (by omega)
  rw [← h1]
  unfold aft
  simp only [sp_app, s1, s2]
theorem F108_v : ∀ (n : Nat) (l : List St), l.length < n → l.length ≤ 2000 → (∀ s ∈ l, rngT s) →
    ∃ b : Bool, ∀ k0 k1 : List R → Option Unit, F108_0 re rk 5000 n (sp l) k0 k1 = match b with | true => k0 (sp (srt l)) | false => k1 (sp (srt l)) := by
  intro n
  induction n with
  | zero => intro l h; omega
  | succ n ih =>
    intro l hn hl hr
    by_cases h2 : l.length < 2
    · refine ⟨true, fun k0 k1 => ?_⟩
      have e : srt l = l := by
        match l, h2 with
        | [], _ => rfl
        | [x], _ => rfl
      have hlt : re.cm .lss (re.on (re.len (sp l))) 2 = true := decide_eq_true (by simp only [e_on, len_sp]; omega)
      simp only [F108_0, G108_0, hlt, e]
    · refine ⟨false, fun k0 k1 => ?_⟩
      have hlt : re.cm .lss ((l.length : Nat) : Int) 2 = false := decide_eq_false (by omega)
      have ht : (l.take (l.length / 2)).length = l.length / 2 := by rw [List.length_take]; omega
      have hd : (l.drop (l.length / 2)).length = l.length - l.length / 2 := by rw [List.length_drop]
      obtain ⟨b1, h1⟩ := ih (l.take (l.length / 2)) (by omega) (by omega) (fun s hs => hr s (List.mem_of_mem_take hs))
      obtain ⟨b2, h3⟩ := ih (l.drop (l.length / 2)) (by omega) (by omega) (fun s hs => hr s (List.mem_of_mem_drop hs))
      have hnz : re.nz 2 = false := rfl
      have hmk : re.mkn ((l.length : Nat) : Int) 32 = some l.length := mkn_ok (by omega) (by omega)
      have hs0 : re.sx 0 l.length = some 0 := sx_ok (a := 0) (by omega)
      have hr0 : ∀ x : R, re.rep 0 x = sp [] := fun x => rfl
      have hla : (srt (l.take (l.length / 2))).length + (srt (l.drop (l.length / 2))).length = l.length := by rw [srt_len, srt_len]; omega
      have ga : ∀ s ∈ srt (l.take (l.length / 2)), rngT s := fun s hs => hr s (List.mem_of_mem_take (srt_mem hs))
      have gb : ∀ s ∈ srt (l.drop (l.length / 2)), rngT s := fun s hs => hr s (List.mem_of_mem_drop (srt_mem hs))
      have hms : mergeS gtT (srt (l.take (l.length / 2))) (srt (l.drop (l.length / 2))) = srt l := by
        unfold srt
        rw [merge_sort weakT, List.take_append_drop]
      have r0 := L108_5_v (aft k1) l.length 5000 _ _ [] hla (by omega) (by simp only [List.length_nil]; omega) ga gb
      have r1 := (L108_5t1_v (aft k1) l.length 5000 _ _ [] hla (by omega) (by simp only [List.length_nil]; omega) ga gb).1
      have r2 := (L108_5t2_v (aft k1) l.length 5000 _ _ [] hla (by omega) (by simp only [List.length_nil]; omega) ga gb).1
      have r3 := (L108_5t3_v (aft k1) l.length 5000 _ _ [] hla (by omega) (by simp only [List.length_nil]; omega) ga gb).1
      have r0 := (aft_v k1 r0 (by omega)).trans (by rw [hms])
      have r1 := (aft_v k1 r1 (by omega)).trans (by rw [hms])
      have r2 := (aft_v k1 r2 (by omega)).trans (by rw [hms])
      have r3 := (aft_v k1 r3 (by omega)).trans (by rw [hms])
      simp only [F108_0, G108_0, len_sp, e_on, hlt, hnz, quo2 l.length (by omega), sx_ok (show l.length / 2 ≤ l.length by omega), sp_take, h1]
      cases b1 with
      | true =>
        simp only [sp_drop, h3, hmk, hs0, hr0]
        cases b2 with
        | true => exact r0
        | false => exact r1
      | false =>
        simp only [sp_drop, h3, hmk, hs0, hr0]
        cases b2 with
        | true => exact r2
        | false => exact r3
end Go.Proofs.Ytcapaihnachkhaa
