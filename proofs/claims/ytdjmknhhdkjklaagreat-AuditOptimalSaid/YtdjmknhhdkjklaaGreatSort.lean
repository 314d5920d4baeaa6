/-
  Stable sorting: merging sorted halves is inserting one after the other.
-/
import Derived.ProofKit
set_option linter.unusedVariables false
set_option linter.unusedSimpArgs false
namespace Go.Proofs.YtdjmknhhdkjklaaGreat
section
variable {α : Type} (gt : α → α → Bool)
def insS (x : α) : List α → List α
  | [] => [x]
  | y :: l => match gt x y with
    | true => x :: y :: l
    | false => y :: insS x l
def insL (l : List α) : List α → List α
  | [] => l
  | x :: m => insL (insS gt x l) m
def mergeS : List α → List α → List α
  | [], b => b
  | x :: a, [] => x :: a
  | x :: a, y :: b => match gt y x with
    | true => y :: mergeS (x :: a) b
    | false => x :: mergeS a (y :: b)
  termination_by a b => a.length + b.length
def SortedS : List α → Prop
  | [] => True
  | x :: l => (∀ y ∈ l, gt y x = false) ∧ SortedS l
structure Weak : Prop where
  irr : ∀ x, gt x x = false
  neg : ∀ x y z, gt x y = false → gt y z = false → gt x z = false
  asy : ∀ x y, gt x y = true → gt y x = false
variable {gt}
theorem insS_mem {x z : α} : ∀ {l : List α}, z ∈ insS gt x l ↔ z = x ∨ z ∈ l
  | [] => by simp [insS]
  | y :: l => by
    unfold insS
    cases gt x y with
    | true => simp
    | false => simp only [List.mem_cons, insS_mem (l := l)]; constructor <;> (intro h; rcases h with h | h | h <;> simp [h])
theorem insS_sorted (w : Weak gt) {x : α} : ∀ {l : List α}, SortedS gt l → SortedS gt (insS gt x l)
  | [], _ => by simp [insS, SortedS]
  | y :: l, h => by
    unfold insS
    cases e : gt x y with
    | true =>
      refine ⟨fun z hz => ?_, h⟩
      rcases List.mem_cons.1 hz with rfl | hz
      · exact w.asy _ _ e
      · exact w.neg _ _ _ (h.1 z hz) (w.asy _ _ e)
    | false =>
      refine ⟨fun z hz => ?_, insS_sorted w h.2⟩
      rcases insS_mem.1 hz with rfl | hz
      · exact e
      · exact h.1 z hz
theorem insL_sorted (w : Weak gt) : ∀ {m l : List α}, SortedS gt l → SortedS gt (insL gt l m)
  | [], l, h => h
  | x :: m, l, h => insL_sorted w (m := m) (insS_sorted w h)
theorem insL_append : ∀ (m n l : List α), insL gt l (m ++ n) = insL gt (insL gt l m) n
  | [], n, l => rfl
  | x :: m, n, l => insL_append m n _
theorem insL_cons {y : α} : ∀ (m l : List α), (∀ z ∈ m, gt z y = false) → insL gt (y :: l) m = y :: insL gt l m
  | [], l, _ => rfl
  | z :: m, l, h => by
    have hz := h z (by simp)
    show insL gt (insS gt z (y :: l)) m = _
    have : insS gt z (y :: l) = y :: insS gt z l := by
      show (match gt z y with | true => _ | false => _) = _
      rw [hz]
    rw [this, insL_cons m _ fun z hz => h z (by simp [hz])]
    rfl
theorem insS_front {y : α} {l : List α} (h : ∀ z ∈ l.head?, gt y z = true) : insS gt y l = y :: l := by
  cases l with
  | nil => rfl
  | cons x l =>
    show (match gt y x with | true => _ | false => _) = _
    rw [h x (by simp)]
theorem merge_ins (w : Weak gt) : ∀ (n : Nat) (a b : List α), a.length + b.length = n → SortedS gt a → SortedS gt b → mergeS gt a b = insL gt a b := by
  intro n
  induction n with
  | zero =>
    intro a b h _ _
    cases a with
    | nil => cases b with
      | nil => simp [mergeS, insL]
      | cons y b => simp at h
    | cons x a => simp at h
  | succ n ih =>
    intro a b h ha hb
    cases a with
    | nil =>
      rw [mergeS]
      have : ∀ (b : List α), SortedS gt b → insL gt [] b = b := by
        intro b
        induction b with
        | nil => intro _; rfl
        | cons y b ihb =>
          intro hb
          show insL gt (insS gt y []) b = _
          rw [show insS gt y [] = [y] from rfl, insL_cons b [] hb.1, ihb hb.2]
      exact (this b hb).symm
    | cons x a => cases b with
      | nil => rw [mergeS]; rfl
      | cons y b =>
        rw [mergeS]
        simp only [List.length_cons] at h
        cases e : gt y x with
        | true =>
          simp only
          rw [ih (x :: a) b (by simp only [List.length_cons]; omega) ha hb.2]
          show _ = insL gt (insS gt y (x :: a)) b
          rw [insS_front (by simp [e]), insL_cons b _ hb.1]
        | false =>
          simp only
          rw [ih a (y :: b) (by simp only [List.length_cons]; omega) ha.2 hb]
          rw [insL_cons (y :: b) a]
          intro z hz
          rcases List.mem_cons.1 hz with rfl | hz
          · exact e
          · exact w.neg _ _ _ (hb.1 z hz) e
theorem ins_comm (w : Weak gt) {x y : α} (h : gt x y = true) : ∀ {l : List α}, SortedS gt l → insS gt y (insS gt x l) = insS gt x (insS gt y l)
  | [], _ => by
    have h' := w.asy _ _ h
    simp [insS, h, h']
  | z :: l, hl => by
    have h' := w.asy _ _ h
    cases e1 : gt x z with
    | true =>
      cases e2 : gt y z with
      | true => simp [insS, e1, e2, h, h']
      | false => simp [insS, e1, e2, h, h']
    | false =>
      have e2 : gt y z = false := w.neg _ _ _ h' e1
      simp [insS, e1, e2, ins_comm w h hl.2]
theorem insL_ins (w : Weak gt) {x : α} : ∀ (m l : List α), SortedS gt l → (∀ z ∈ m, gt x z = true) → insL gt (insS gt x l) m = insS gt x (insL gt l m)
  | [], l, _, _ => rfl
  | z :: m, l, hl, h => by
    show insL gt (insS gt z (insS gt x l)) m = insS gt x (insL gt (insS gt z l) m)
    rw [ins_comm w (h z (by simp)) hl, insL_ins w m _ (insS_sorted w hl) fun z hz => h z (by simp [hz])]
theorem insL_insS (w : Weak gt) {x : α} : ∀ (m l : List α), SortedS gt m → SortedS gt l → insL gt l (insS gt x m) = insS gt x (insL gt l m)
  | [], l, _, _ => rfl
  | z :: m, l, hm, hl => by
    cases e : gt x z with
    | true =>
      have : insS gt x (z :: m) = x :: z :: m := by
        show (match gt x z with | true => _ | false => _) = _
        rw [e]
      rw [this]
      show insL gt (insS gt x l) (z :: m) = _
      refine insL_ins w (z :: m) l hl fun y hy => ?_
      rcases List.mem_cons.1 hy with rfl | hy
      · exact e
      · cases e2 : gt x y with
        | true => rfl
        | false =>
          have := w.neg _ _ _ e2 (hm.1 y hy)
          rw [e] at this; cases this
    | false =>
      have : insS gt x (z :: m) = z :: insS gt x m := by
        show (match gt x z with | true => _ | false => _) = _
        rw [e]
      rw [this]
      show insL gt (insS gt z l) (insS gt x m) = insS gt x (insL gt (insS gt z l) m)
      exact insL_insS w m _ hm.2 (insS_sorted w hl)
theorem insL_sort (w : Weak gt) (b : List α) : ∀ (l : List α), SortedS gt l → insL gt l (insL gt [] b) = insL gt l b := by
  have key : ∀ (b m l : List α), SortedS gt m → SortedS gt l → insL gt l (insL gt m b) = insL gt (insL gt l m) b := by
    intro b
    induction b with
    | nil => intro m l _ _; rfl
    | cons x b ih =>
      intro m l hm hl
      show insL gt l (insL gt (insS gt x m) b) = insL gt (insS gt x (insL gt l m)) b
      rw [ih (insS gt x m) l (insS_sorted w hm) hl, insL_insS w m l hm hl]
  intro l hl
  exact key b [] l trivial hl
theorem merge_sort (w : Weak gt) (a b : List α) : mergeS gt (insL gt [] a) (insL gt [] b) = insL gt [] (a ++ b) := by
  have ha : SortedS gt (insL gt [] a) := insL_sorted w (m := a) trivial
  have hb : SortedS gt (insL gt [] b) := insL_sorted w (m := b) trivial
  rw [merge_ins w _ _ _ rfl ha hb, insL_sort w b _ ha, insL_append]
def infS (x : Int × Int) : Bool := decide (x.2 = 0) && decide (0 < x.1)
def runS (x : Int × Int) : Int := if x.2 < 1 then 1 else x.2
def gtS (x y : Int × Int) : Bool := match infS x with
  | true => !infS y
  | false => match infS y with
    | true => false
    | false => decide (y.1 * runS x < x.1 * runS y)
theorem runS_pos (x : Int × Int) : 1 ≤ runS x := by unfold runS; split <;> omega
theorem cross {a b c m n k : Int} (hm : 1 ≤ m) (hn : 1 ≤ n) (hk : 1 ≤ k) (h1 : a * n ≤ b * m) (h2 : b * k ≤ c * n) : a * k ≤ c * m := by
  have e1 : a * n * k ≤ b * m * k := Int.mul_le_mul_of_nonneg_right h1 (by omega)
  have e2 : b * k * m ≤ c * n * m := Int.mul_le_mul_of_nonneg_right h2 (by omega)
  have e3 : a * k * n ≤ c * m * n := by
    rw [Int.mul_assoc, Int.mul_comm k n, ← Int.mul_assoc, Int.mul_assoc c m n, Int.mul_comm m n, ← Int.mul_assoc]
    refine Int.le_trans e1 ?_
    rw [Int.mul_assoc, Int.mul_comm m k, ← Int.mul_assoc]
    exact e2
  exact Int.le_of_mul_le_mul_right e3 (by omega)
theorem weakS : Weak gtS where
  irr x := by
    unfold gtS
    cases infS x with
    | true => rfl
    | false => exact decide_eq_false (by omega)
  asy x y h := by
    unfold gtS at h ⊢
    cases e1 : infS x with
    | true =>
      rw [e1] at h
      cases e2 : infS y with
      | true => rw [e2] at h; cases h
      | false => rfl
    | false =>
      rw [e1] at h
      cases e2 : infS y with
      | true => rw [e2] at h; cases h
      | false =>
        rw [e2] at h
        have := of_decide_eq_true h
        exact decide_eq_false (by omega)
  neg x y z h1 h2 := by
    unfold gtS at h1 h2 ⊢
    cases e1 : infS x with
    | true =>
      rw [e1] at h1
      cases e2 : infS y with
      | false => rw [e2] at h1; cases h1
      | true =>
        rw [e2] at h2
        cases e3 : infS z with
        | false => rw [e3] at h2; cases h2
        | true => rfl
    | false =>
      rw [e1] at h1
      cases e3 : infS z with
      | true => rfl
      | false =>
        cases e2 : infS y with
        | true => rw [e2, e3] at h2; cases h2
        | false =>
          rw [e2] at h1
          rw [e2, e3] at h2
          have h1 := of_decide_eq_false h1
          have h2 := of_decide_eq_false h2
          have := cross (a := x.1) (b := y.1) (c := z.1) (runS_pos x) (runS_pos y) (runS_pos z) (by omega) (by omega)
          exact decide_eq_false (by omega)
theorem weak_map {β : Type} {g : α → α → Bool} (w : Weak g) (f : β → α) : Weak (fun a b => g (f a) (f b)) :=
  ⟨fun x => w.irr _, fun x y z h1 h2 => w.neg _ _ _ h1 h2, fun x y h => w.asy _ _ h⟩
end
end Go.Proofs.YtdjmknhhdkjklaaGreat
