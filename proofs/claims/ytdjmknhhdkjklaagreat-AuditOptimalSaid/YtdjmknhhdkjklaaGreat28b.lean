/-
  What is taken for a budget is best for its own rate.
-/
import Derived.Test.YtdjmknhhdkjklaaGreat28a
set_option linter.unusedVariables false
set_option linter.unusedSimpArgs false
set_option maxRecDepth 100000
namespace Go.Proofs.YtdjmknhhdkjklaaGreat
open Go.Os
open Go.ChangeShapes Go.WideShapes Go.ChangeAt Go.RowKit
section
variable {α : Type} {g : α → α → Bool} (w : Weak g) (p : α → Bool)
include w
theorem insS_filter (x : α) : ∀ l : List α, SortedS g l → (insS g x l).filter p = match p x with | true => insS g x (l.filter p) | false => l.filter p
  | [], _ => by
    cases h : p x <;> simp [insS, h]
  | y :: l, hs => by
    have hL : insS g x (y :: l) = match g x y with | true => x :: y :: l | false => y :: insS g x l := rfl
    rw [hL]
    cases e : g x y with
    | true =>
      have all : ∀ z ∈ (y :: l), g x z = true := by
        intro z hz
        rcases List.mem_cons.1 hz with rfl | hz
        · exact e
        · cases e2 : g x z with
          | true => rfl
          | false =>
            have := w.neg _ _ _ e2 (hs.1 z hz)
            rw [e] at this; cases this
      simp only
      cases h : p x with
      | true =>
        rw [List.filter_cons_of_pos h]
        simp only
        exact (insS_front (fun z hz => all z (List.mem_filter.1 (List.mem_of_mem_head? hz)).1)).symm
      | false => rw [List.filter_cons_of_neg (by simp [h])]
    | false =>
      have ih := insS_filter x l hs.2
      simp only
      cases hy : p y with
      | true =>
        rw [List.filter_cons_of_pos hy, List.filter_cons_of_pos hy, ih]
        cases p x with
        | true =>
          show _ = (match g x y with | true => _ | false => _)
          rw [e]
        | false => rfl
      | false =>
        rw [List.filter_cons_of_neg (by simp [hy]), List.filter_cons_of_neg (by simp [hy]), ih]
theorem insL_filter : ∀ m l : List α, SortedS g l → (insL g l m).filter p = insL g (l.filter p) (m.filter p)
  | [], l, _ => rfl
  | x :: m, l, hl => by
    show (insL g (insS g x l) m).filter p = _
    rw [insL_filter m _ (insS_sorted w hl), insS_filter w p x l hl]
    cases h : p x with
    | true => rw [List.filter_cons_of_pos h]; rfl
    | false => rw [List.filter_cons_of_neg (by simp [h])]
end
theorem insL_id {α : Type} {g : α → α → Bool} : ∀ (b : List α), SortedS g b → insL g [] b = b
  | [], _ => rfl
  | y :: b, hb => by
    show insL g (insS g y []) b = _
    rw [show insS g y [] = [y] from rfl, insL_cons b [] hb.1, insL_id b hb.2]
theorem sorted_app {α : Type} {g : α → α → Bool} : ∀ {a b : List α}, SortedS g (a ++ b) → ∀ x ∈ a, ∀ y ∈ b, g y x = false
  | [], _, _, x, hx, _, _ => by cases hx
  | z :: a, b, h, x, hx, y, hy => by
    rcases List.mem_cons.1 hx with rfl | hx
    · exact h.1 y (List.mem_append_right _ hy)
    · exact sorted_app h.2 x hx y hy
theorem sorted_left {α : Type} {g : α → α → Bool} : ∀ {a b : List α}, SortedS g (a ++ b) → SortedS g a
  | [], _, _ => trivial
  | z :: a, b, h => ⟨fun y hy => h.1 y (List.mem_append_left _ hy), sorted_left h.2⟩
def cv (i : Nat) (s : St) : Bool := decide (s.2.1 = (i : Int))
theorem stO_cv (c : Int) (r d : IL) : ∀ (l : List Nat) (a : Nat), ∀ s ∈ stO c r d a l, s.2.1 = c
  | [], _, s, hs => by cases hs
  | b :: l, a, s, hs => by
    rcases List.mem_cons.1 hs with rfl | hs
    · rfl
    · exact stO_cv c r d l b s hs
theorem crv_filter (cs : CL) (i j : Nat) : (crv cs j).filter (cv i) = if i = j then crv cs j else [] := by
  by_cases h : i = j
  · rw [if_pos h]
    refine List.filter_eq_self.2 fun s hs => ?_
    have := stO_cv _ _ _ _ _ s hs
    exact decide_eq_true (by rw [this, h])
  · rw [if_neg h]
    refine List.filter_eq_nil_iff.2 fun s hs => ?_
    have := stO_cv _ _ _ _ _ s hs
    unfold cv
    rw [this, decide_eq_false (by omega)]
    simp
theorem allS_filter (cs : CL) (i : Nat) : ∀ cnt j, (allS cs cnt j).filter (cv i) = if j ≤ i ∧ i < j + cnt then crv cs i else []
  | 0, j => by rw [if_neg (by omega)]; rfl
  | cnt + 1, j => by
    show (crv cs j ++ allS cs cnt (j + 1)).filter (cv i) = _
    rw [List.filter_append, crv_filter, allS_filter cs i cnt (j + 1)]
    by_cases h : i = j
    · subst h
      rw [if_pos rfl, if_neg (by omega), if_pos (by omega), List.append_nil]
    · rw [if_neg h, List.nil_append]
      by_cases g : j + 1 ≤ i ∧ i < j + 1 + cnt
      · rw [if_pos g, if_pos (by omega)]
      · rw [if_neg g, if_neg (by omega)]
section
variable {cs : CL} (V : ∀ i, i < cs.length → VC (gC cs i).1 (gC cs i).2)
include V
theorem crv_HC {i : Nat} (h : i < cs.length) : HC (gC cs i).1 (gC cs i).2 0 (tlp (gC cs i).1 (gC cs i).2 (gC cs i).1.length 0) := by
  have h1 := (V i h).2.1
  exact tlp_HC (V i h) _ 0 (by omega) (by omega)
theorem srt_filter {i : Nat} (h : i < cs.length) : (srt (allS cs cs.length 0)).filter (cv i) = crv cs i := by
  have h1 := (V i h).2.1
  unfold srt
  rw [insL_filter weakT (cv i) (allS cs cs.length 0) [] trivial, allS_filter, if_pos (by omega)]
  exact insL_id _ (stO_sorted (V i h) (i : Int) _ 0 (by omega) (crv_HC V h))
end
def sm (f : Nat → Int) : Nat → Int
  | 0 => 0
  | n + 1 => sm f n + f n
theorem sm_same {f f' : Nat → Int} : ∀ n, (∀ j, j < n → f' j = f j) → sm f' n = sm f n
  | 0, _ => rfl
  | n + 1, h => by
    show sm f' n + f' n = sm f n + f n
    rw [sm_same n fun j hj => h j (by omega), h n (by omega)]
theorem sm_upd {f f' : Nat → Int} {i : Nat} : ∀ n, i < n → (∀ j, j ≠ i → f' j = f j) → sm f' n = sm f n - f i + f' i
  | 0, h, _ => by omega
  | n + 1, h, hf => by
    show sm f' n + f' n = sm f n + f n - f i + f' i
    by_cases e : i = n
    · subst e
      rw [sm_same i fun j hj => hf j (by omega)]; omega
    · rw [sm_upd n (by omega) hf, hf n (by omega)]; omega
def cR (cs : CL) (ch : IL) : Int := sm (fun j => gI (gC cs j).1 (gI ch j).toNat) cs.length
def cD (cs : CL) (ch : IL) : Int := sm (fun j => gI (gC cs j).2 (gI ch j).toNat) cs.length
theorem gI_set {m : IL} {i : Nat} (x : Int) (h : i < m.length) (j : Nat) : gI (m.set i x) j = if i = j then x else gI m j := by
  unfold gI
  rw [List.getD_eq_getElem?_getD, List.getD_eq_getElem?_getD, List.getElem?_set]
  by_cases e : i = j
  · rw [if_pos e, if_pos e, if_pos h]; rfl
  · rw [if_neg e, if_neg e]
def InvC (cs : CL) (Q : List St) (ch : IL) : Prop := ch.length = cs.length ∧ ∀ i, i < cs.length → ∃ (a : Nat) (l : List Nat), gI ch i = (a : Int) ∧ a < (gC cs i).1.length ∧ HC (gC cs i).1 (gC cs i).2 a l ∧ Q.filter (cv i) = stO (i : Int) (gC cs i).1 (gC cs i).2 a l
def sB : List St → Int
  | [] => 0
  | s :: l => s.1.2 + sB l
def sF : List St → Int
  | [] => 0
  | s :: l => s.1.1 + sF l
def inC (cs : CL) (ch : IL) : Prop := ch.length = cs.length ∧ ∀ i, i < cs.length → ∃ a : Nat, gI ch i = (a : Int) ∧ a < (gC cs i).1.length
theorem tk_cost (cs : CL) : ∀ (Q : List St) (b : Int) (ch : IL), 0 ≤ b → (∀ s ∈ Q, okS cs s) → InvC cs Q ch →
    ∃ P Q', Q = P ++ Q' ∧ cR cs (tk Q b ch) = cR cs ch + sB P ∧ cD cs (tk Q b ch) = cD cs ch - sF P ∧ sB P ≤ b ∧ (Q' = [] ∨ ∃ s Q'', Q' = s :: Q'' ∧ 0 < s.1.2) ∧ inC cs (tk Q b ch)
  | [], b, ch, hb, ho, hi => by
    refine ⟨[], [], rfl, ?_, ?_, hb, Or.inl rfl, hi.1, fun i h => ?_⟩
    · show cR cs ch = cR cs ch + 0; omega
    · show cD cs ch = cD cs ch - 0; omega
    · obtain ⟨a, _, h1, h2, _⟩ := hi.2 i h
      exact ⟨a, h1, h2⟩
  | s :: Q, b, ch, hb, ho, hi => by
    unfold tk
    by_cases hlt : b < s.1.2
    · rw [decide_eq_true hlt]
      refine ⟨[], s :: Q, rfl, ?_, ?_, hb, Or.inr ⟨s, Q, rfl, by omega⟩, hi.1, fun i h => ?_⟩
      · show cR cs ch = cR cs ch + 0; omega
      · show cD cs ch = cD cs ch - 0; omega
      · obtain ⟨a, _, h1, h2, _⟩ := hi.2 i h
        exact ⟨a, h1, h2⟩
    · rw [decide_eq_false hlt]
      simp only
      obtain ⟨hr, i, e1, e2⟩ := ho s (List.mem_cons_self ..)
      obtain ⟨a, l, h1, h2, h3, h4⟩ := hi.2 i e2
      have hcv : cv i s = true := decide_eq_true e1
      rw [List.filter_cons_of_pos hcv] at h4
      cases l with
      | nil => cases h4
      | cons e l =>
        obtain ⟨hs, hQ⟩ := List.cons.inj (show s :: Q.filter (cv i) = ((gI (gC cs i).2 a - gI (gC cs i).2 e, gI (gC cs i).1 e - gI (gC cs i).1 a), ((i : Int), (e : Int))) :: stO (i : Int) (gC cs i).1 (gC cs i).2 e l from h4)
        obtain ⟨⟨g1, g2, g3, g4⟩, h5⟩ := h3
        have hto : s.2.1.toNat = i := by rw [e1]; rfl
        have hs2 : s.2.2 = (e : Int) := by rw [hs]
        have hsb : s.1.2 = gI (gC cs i).1 e - gI (gC cs i).1 a := by rw [hs]
        have hsf : s.1.1 = gI (gC cs i).2 a - gI (gC cs i).2 e := by rw [hs]
        rw [hto, hs2]
        have hil : i < ch.length := by rw [hi.1]; exact e2
        have hinv : InvC cs Q (ch.set i (e : Int)) := by
          refine ⟨by rw [List.length_set]; exact hi.1, fun j hj => ?_⟩
          by_cases hji : i = j
          · subst hji
            exact ⟨e, l, by rw [gI_set _ hil, if_pos rfl], g2, h5, hQ⟩
          · obtain ⟨a', l', k1, k2, k3, k4⟩ := hi.2 j hj
            refine ⟨a', l', by rw [gI_set _ hil, if_neg hji]; exact k1, k2, k3, ?_⟩
            have hn : ¬ cv j s = true := by
              unfold cv; rw [e1, decide_eq_false (by omega)]; simp
            rw [List.filter_cons_of_neg hn] at k4
            exact k4
        have cr : cR cs (ch.set i (e : Int)) = cR cs ch + s.1.2 := by
          unfold cR
          rw [sm_upd (f := fun j => gI (gC cs j).1 (gI ch j).toNat) (i := i) cs.length e2 fun j hj => by
            simp only [gI_set _ hil, if_neg (show ¬ i = j by omega)]]
          simp only [gI_set _ hil, if_true, h1, Int.toNat_natCast]
          omega
        have cd : cD cs (ch.set i (e : Int)) = cD cs ch - s.1.1 := by
          unfold cD
          rw [sm_upd (f := fun j => gI (gC cs j).2 (gI ch j).toNat) (i := i) cs.length e2 fun j hj => by
            simp only [gI_set _ hil, if_neg (show ¬ i = j by omega)]]
          simp only [gI_set _ hil, if_true, h1, Int.toNat_natCast]
          omega
        obtain ⟨P, Q', p1, p2, p3, p4, p5, p6⟩ := tk_cost cs Q (b - s.1.2) (ch.set i (e : Int)) (by omega) (fun t ht => ho t (List.mem_cons_of_mem _ ht)) hinv
        refine ⟨s :: P, Q', by rw [p1]; rfl, ?_, ?_, ?_, p5, p6⟩
        · rw [p2, cr]; show _ = cR cs ch + (s.1.2 + sB P); omega
        · rw [p3, cd]; show _ = cD cs ch - (s.1.1 + sF P); omega
        · show s.1.2 + sB P ≤ b; omega
theorem gtT_x {x y : St} (hx : 0 < x.1.1) (hy : 0 < y.1.1) (gx : 0 ≤ x.1.2) (gy : 0 ≤ y.1.2) (h : gtT y x = false) : y.1.1 * x.1.2 ≤ x.1.1 * y.1.2 := by
  have h' : gtS (y.1.1, y.1.2) (x.1.1, x.1.2) = false := h
  rw [gtS_x hy hx gy gx] at h'
  have := of_decide_eq_false h'
  omega
theorem price {P Q' : List St} (hs : SortedS gtT (P ++ Q')) (hp : ∀ s ∈ P ++ Q', 0 < s.1.1 ∧ rngT s) (hh : Q' = [] ∨ ∃ s Q'', Q' = s :: Q'' ∧ 0 < s.1.2) :
    ∃ p q : Int, 0 ≤ p ∧ 0 < q ∧ (∀ s ∈ P, p * s.1.2 ≤ q * s.1.1) ∧ (∀ s ∈ Q', q * s.1.1 ≤ p * s.1.2) := by
  have hP : ∀ s ∈ P, 0 < s.1.1 ∧ rngT s := fun s h => hp s (List.mem_append_left _ h)
  have hQ : ∀ s ∈ Q', 0 < s.1.1 ∧ rngT s := fun s h => hp s (List.mem_append_right _ h)
  have flat : (∀ s ∈ P, s.1.2 = 0) → ∃ p q : Int, 0 ≤ p ∧ 0 < q ∧ (∀ s ∈ P, p * s.1.2 ≤ q * s.1.1) ∧ (∀ s ∈ Q', q * s.1.1 ≤ p * s.1.2) := by
    intro hz
    refine ⟨70368744177664, 1, by omega, by omega, fun s h => ?_, fun s h => ?_⟩
    · have := hz s h
      have := (hP s h).1
      omega
    · obtain ⟨h1, h2⟩ := hQ s h
      obtain ⟨r1, r2, r3, r4⟩ := rngS_in h2
      have hb : 0 < s.1.2 := by
        rcases hh with e | ⟨k, Q'', e, hk⟩
        · rw [e] at h; cases h
        · have hkm : k ∈ Q' := by rw [e]; exact List.mem_cons_self ..
          rw [e] at h
          rcases List.mem_cons.1 h with rfl | h
          · exact hk
          · have hsk : gtT s k = false := sorted_app (a := P ++ [k]) (b := Q'') (by rw [List.append_assoc, List.singleton_append, ← e]; exact hs) k (List.mem_append_right _ (List.mem_singleton.2 rfl)) s h
            have k1 := (hQ k hkm).1
            have := gtT_x k1 h1 (rngS_in (hQ k hkm).2).2.2.1 r3 hsk
            have pos := Int.mul_pos h1 hk
            by_cases z : s.1.2 = 0
            · rw [z] at this; omega
            · omega
      omega
  rcases List.eq_nil_or_concat P with e | ⟨P0, k, e⟩
  · exact flat (by rw [e]; intro s h; cases h)
  · rw [List.concat_eq_append] at e
    have hk : k ∈ P := by rw [e]; exact List.mem_append_right _ (List.mem_singleton.2 rfl)
    obtain ⟨k1, k2⟩ := hP k hk
    obtain ⟨r1, r2, r3, r4⟩ := rngS_in k2
    have hPs := sorted_left hs
    have before : ∀ s ∈ P, k.1.1 * s.1.2 ≤ s.1.1 * k.1.2 := by
      intro s h
      obtain ⟨s1, s2⟩ := hP s h
      have h' := h
      rw [e] at h'
      rcases List.mem_append.1 h' with h' | h'
      · have := sorted_app (a := P0) (b := [k]) (by rw [← e]; exact hPs) s h' k (List.mem_singleton.2 rfl)
        exact gtT_x s1 k1 (rngS_in s2).2.2.1 r3 this
      · rw [List.mem_singleton.1 h']; exact Int.le_refl _
    by_cases z : k.1.2 = 0
    · refine flat fun s h => ?_
      obtain ⟨s1, s2⟩ := hP s h
      have := before s h
      rw [z] at this
      have r := (rngS_in s2).2.2.1
      by_cases zz : s.1.2 = 0
      · exact zz
      · have := Int.mul_pos k1 (show 0 < s.1.2 by omega)
        omega
    · refine ⟨k.1.1, k.1.2, by omega, by omega, fun s h => ?_, fun s h => ?_⟩
      · have := before s h
        rw [Int.mul_comm k.1.2]; exact this
      · obtain ⟨s1, s2⟩ := hQ s h
        have := gtT_x k1 s1 r3 (rngS_in s2).2.2.1 (sorted_app hs k hk s h)
        rw [Int.mul_comm k.1.2]; exact this
theorem sM_app (p q : Int) : ∀ a b, sM p q (a ++ b) = sM p q a + sM p q b
  | [], b => by show sM p q b = 0 + sM p q b; omega
  | s :: a, b => by
    show mS p q s + sM p q (a ++ b) = mS p q s + sM p q a + sM p q b
    rw [sM_app p q a b]; omega
theorem sM_insS (p q : Int) (s : St) : ∀ l, sM p q (insS gtT s l) = mS p q s + sM p q l
  | [] => rfl
  | x :: l => by
    unfold insS
    cases gtT s x with
    | true => rfl
    | false =>
      show mS p q x + sM p q (insS gtT s l) = mS p q s + (mS p q x + sM p q l)
      rw [sM_insS p q s l]; omega
theorem sM_insL (p q : Int) : ∀ m l, sM p q (insL gtT l m) = sM p q l + sM p q m
  | [], l => by show sM p q l = sM p q l + 0; omega
  | s :: m, l => by
    show sM p q (insL gtT (insS gtT s l) m) = sM p q l + (mS p q s + sM p q m)
    rw [sM_insL p q m, sM_insS]; omega
theorem sM_srt (p q : Int) (l : List St) : sM p q (srt l) = sM p q l := by
  unfold srt
  rw [sM_insL]
  show 0 + _ = _
  omega
theorem sM_take (p q : Int) : ∀ P : List St, (∀ s ∈ P, p * s.1.2 ≤ q * s.1.1) → sM p q P = p * sB P - q * sF P
  | [], _ => by show (0 : Int) = p * 0 - q * 0; omega
  | s :: P, h => by
    have h1 := h s (List.mem_cons_self ..)
    show mS p q s + sM p q P = p * (s.1.2 + sB P) - q * (s.1.1 + sF P)
    rw [sM_take p q P fun t ht => h t (List.mem_cons_of_mem _ ht), Int.mul_add, Int.mul_add]
    unfold mS
    rw [if_pos (by omega)]; omega
theorem sM_rest (p q : Int) : ∀ Q : List St, (∀ s ∈ Q, q * s.1.1 ≤ p * s.1.2) → sM p q Q = 0
  | [], _ => rfl
  | s :: Q, h => by
    have h1 := h s (List.mem_cons_self ..)
    show mS p q s + sM p q Q = 0
    rw [sM_rest p q Q fun t ht => h t (List.mem_cons_of_mem _ ht)]
    unfold mS
    split <;> omega
theorem sM_allS (p q : Int) (cs : CL) : ∀ cnt j, sM p q (allS cs cnt j) = sm (fun j => sM p q (crv cs j)) (j + cnt) - sm (fun j => sM p q (crv cs j)) j
  | 0, j => by show (0 : Int) = _; rw [Nat.add_zero]; omega
  | cnt + 1, j => by
    show sM p q (crv cs j ++ allS cs cnt (j + 1)) = _
    rw [sM_app, sM_allS p q cs cnt (j + 1), show j + 1 + cnt = j + (cnt + 1) by omega]
    show _ + (_ - (sm (fun j => sM p q (crv cs j)) j + sM p q (crv cs j))) = _
    omega
theorem stO_pos {r d : IL} (c : Int) : ∀ {l : List Nat} {a : Nat}, HC r d a l → ∀ s ∈ stO c r d a l, 0 < s.1.1
  | [], _, _, s, hs => by cases hs
  | b :: l, a, ⟨⟨h1, h2, h3, _⟩, h⟩, s, hs => by
    rcases List.mem_cons.1 hs with rfl | hs
    · simp only; omega
    · exact stO_pos c h s hs
section
variable {cs : CL} (V : ∀ i, i < cs.length → VC (gC cs i).1 (gC cs i).2)
include V
theorem allS_pos : ∀ (cnt j : Nat), j + cnt = cs.length → ∀ s ∈ allS cs cnt j, 0 < s.1.1
  | 0, _, _, s, hs => by cases hs
  | cnt + 1, j, h, s, hs => by
    rcases List.mem_append.1 hs with hs | hs
    · exact stO_pos _ (crv_HC V (show j < cs.length by omega)) s hs
    · exact allS_pos cnt (j + 1) (by omega) s hs
omit V in
theorem rep0 (n i : Nat) : gI (List.replicate n 0) i = 0 := by
  by_cases h : i < n
  · rw [gI_in (by rw [List.length_replicate]; exact h), List.getElem_replicate]
  · exact gI_out (by rw [List.length_replicate]; exact h)
theorem inv0 : InvC cs (srt (allS cs cs.length 0)) (List.replicate cs.length 0) := by
  refine ⟨List.length_replicate, fun i h => ?_⟩
  have h1 := (V i h).2.1
  exact ⟨0, _, rep0 _ _, by omega, crv_HC V h, srt_filter V h⟩
theorem low {p q : Int} (hp : 0 ≤ p) (hq : 0 < q) {w : IL} (hw : inC cs w) : ∀ k, k ≤ cs.length →
    q * sm (fun j => gI (gC cs j).2 0) k + p * sm (fun j => gI (gC cs j).1 0) k + sm (fun j => sM p q (crv cs j)) k ≤ q * sm (fun j => gI (gC cs j).2 (gI w j).toNat) k + p * sm (fun j => gI (gC cs j).1 (gI w j).toNat) k
  | 0, _ => by show q * 0 + p * 0 + 0 ≤ q * 0 + p * 0; omega
  | k + 1, h => by
    have ih := low hp hq hw k (by omega)
    have h1 := (V k (by omega)).2.1
    obtain ⟨a, e1, e2⟩ := hw.2 k (by omega)
    have := hull_low (V k (by omega)) hp hq (k : Int) _ 0 (by omega) (crv_HC V (show k < cs.length by omega)) a (by omega) e2
    have hc : sM p q (crv cs k) = sM p q (stO (k : Int) (gC cs k).1 (gC cs k).2 0 (tlp (gC cs k).1 (gC cs k).2 (gC cs k).1.length 0)) := rfl
    show q * (sm (fun j => gI (gC cs j).2 0) k + gI (gC cs k).2 0) + p * (sm (fun j => gI (gC cs j).1 0) k + gI (gC cs k).1 0) + (sm (fun j => sM p q (crv cs j)) k + sM p q (crv cs k)) ≤ q * (sm (fun j => gI (gC cs j).2 (gI w j).toNat) k + gI (gC cs k).2 (gI w k).toNat) + p * (sm (fun j => gI (gC cs j).1 (gI w j).toNat) k + gI (gC cs k).1 (gI w k).toNat)
    rw [e1, Int.toNat_natCast, hc, Int.mul_add, Int.mul_add, Int.mul_add, Int.mul_add]
    omega
theorem best {t : Int} (ht : 0 ≤ t) {w : IL} (hw : inC cs w) :
    cR cs (chs cs t) ≤ t ∧ ¬ (cR cs w ≤ cR cs (chs cs t) ∧ cD cs w < cD cs (chs cs t)) ∧ inC cs (chs cs t) := by
  have hs : SortedS gtT (srt (allS cs cs.length 0)) := insL_sorted weakT (m := allS cs cs.length 0) (l := []) trivial
  have ho : ∀ s ∈ srt (allS cs cs.length 0), okS cs s := srt_ok V
  have hpos : ∀ s ∈ srt (allS cs cs.length 0), 0 < s.1.1 ∧ rngT s := fun s h => ⟨allS_pos V cs.length 0 (by omega) s (srt_mem h), (ho s h).1⟩
  have hch : chs cs t = tk (srt (allS cs cs.length 0)) t (List.replicate cs.length 0) := by
    unfold chs
    rw [decide_eq_false (show ¬ t = -1 by omega)]
  obtain ⟨P, Q', h1, h2, h3, h4, h5, h6⟩ := tk_cost cs (srt (allS cs cs.length 0)) t (List.replicate cs.length 0) ht ho (inv0 V)
  have z1 : cR cs (List.replicate cs.length 0) = sm (fun j => gI (gC cs j).1 0) cs.length := sm_same _ fun j hj => by rw [rep0]; rfl
  have z2 : cD cs (List.replicate cs.length 0) = sm (fun j => gI (gC cs j).2 0) cs.length := sm_same _ fun j hj => by rw [rep0]; rfl
  have z3 : sm (fun j => gI (gC cs j).1 0) cs.length = 0 := by
    have : ∀ k, k ≤ cs.length → sm (fun j => gI (gC cs j).1 0) k = 0 := by
      intro k
      induction k with
      | zero => intro _; rfl
      | succ k ih =>
        intro hk
        show sm (fun j => gI (gC cs j).1 0) k + gI (gC cs k).1 0 = 0
        rw [ih (by omega), (V k (by omega)).2.2.2.1]; rfl
    exact this _ (Nat.le_refl _)
  rw [hch]
  refine ⟨by rw [h2, z1, z3]; omega, fun hbad => ?_, h6⟩
  rw [h1] at hs hpos
  obtain ⟨p, q, hp, hq, g1, g2⟩ := price hs hpos h5
  have hM : sM p q (allS cs cs.length 0) = p * sB P - q * sF P := by
    rw [← sM_srt, h1, sM_app, sM_take p q P g1, sM_rest p q Q' g2]; omega
  rw [sM_allS] at hM
  have hl := low V hp hq hw cs.length (Nat.le_refl _)
  have b1 := Int.mul_le_mul_of_nonneg_left hbad.1 hp
  have b2 := Int.mul_lt_mul_of_pos_left hbad.2 hq
  rw [h2, z1, Int.mul_add] at b1
  rw [h3, z2, Int.mul_sub] at b2
  have e0 : sm (fun j => sM p q (crv cs j)) 0 = 0 := rfl
  rw [e0, Nat.zero_add] at hM
  have w1 : cR cs w = sm (fun j => gI (gC cs j).1 (gI w j).toNat) cs.length := rfl
  have w2 : cD cs w = sm (fun j => gI (gC cs j).2 (gI w j).toNat) cs.length := rfl
  rw [w1] at b1
  rw [w2] at b2
  omega
end
end Go.Proofs.YtdjmknhhdkjklaaGreat
