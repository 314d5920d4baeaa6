/-
  The reference's steps: each is put in its place.
-/
import Derived.Test.YtdjmknhhdkjklaaGreat7d
set_option linter.unusedVariables false
set_option linter.unusedSimpArgs false
set_option maxRecDepth 100000
namespace Go.Proofs.YtdjmknhhdkjklaaGreat
open Go.Os
open Go.ChangeShapes Go.WideShapes Go.ChangeAt Go.RowKit
def rngT (s : St) : Prop := rngS s.1.1 s.1.2 = true
theorem L18_12_v {acc : List St} (ha : ∀ s ∈ acc, rngT s) (hl : acc.length ≤ 100000) {f b : Int} (hfb : rngS f b = true) (k0 : Q0 Unit) (x1 : Int) (x2 x3 x4 : List R) (x5 x8 x9 : Int) (xb : List R) (xc xd : Int) : ∀ (at' n : Nat), at' ≤ acc.length → at' < n →
    L18_12_0 re rk 5000 n k0 (sq acc) x1 x2 x3 x4 x5 f b x8 x9 (at' : Int) xb xc xd = k0 (sq acc) x1 x2 x3 x4 x5 f b x8 x9 ((posB (fun i => gtS (f, b) (gS acc i).1) at' : Nat) : Int) xb xc xd := by
  intro at'
  induction at' with
  | zero =>
    intro n _ hn
    obtain ⟨n, rfl⟩ : ∃ n', n = n' + 1 := ⟨n - 1, by omega⟩
    rfl
  | succ a ih =>
    intro n h hn
    obtain ⟨n, rfl⟩ : ∃ n', n = n' + 1 := ⟨n - 1, by omega⟩
    have h1 : a < acc.length := by omega
    have hgt : decide ((0 : Int) < ((a + 1 : Nat) : Int)) = true := decide_eq_true (by omega)
    have hsub : re.ar .sub .i64 ((a + 1 : Nat) : Int) 1 = (a : Int) := e_sub1 (j := a + 1) (by omega) (by omega)
    have hr : rngS acc[a].1.1 acc[a].1.2 = true := ha acc[a] (List.getElem_mem h1)
    simp only [L18_12_0, GL18_12_0, e_gtr, hgt, hsub, len_sq, e_ix h1, okC_sq0 h1, okC_sq1 h1, (ci_sq h1).1, (ci_sq h1).2.1, F29_v]
    have := stv_gt hfb hr
    simp only [e_gtr] at this
    rw [this]
    unfold posB
    rw [gS_in h1]
    cases gtS (f, b) acc[a].1 with
    | true => exact ih n (by omega) (by omega)
    | false => rfl
def upS (acc : List St) (z : St) (p : Nat) : List St := (acc ++ [z]).take (p + 1) ++ acc.drop p
theorem upS_len (acc : List St) (z : St) (p : Nat) (h : p ≤ acc.length) : (upS acc z p).length = acc.length + 1 := by
  unfold upS
  simp only [List.length_append, List.length_take, List.length_drop, List.length_cons, List.length_nil]; omega
theorem up_sq (acc : List St) (z : St) (p : Nat) (h : p ≤ acc.length) :
    re.spl (re.app (sq acc) [stQ z]) (p + 1) (re.seg (re.seg (re.app (sq acc) [stQ z]) p (re.sub (re.len (re.app (sq acc) [stQ z])) p)) 0 (re.nmn (re.len (re.seg (re.app (sq acc) [stQ z]) p (re.sub (re.len (re.app (sq acc) [stQ z])) p))) (re.sub (re.len (re.app (sq acc) [stQ z])) (p + 1)))) = sq (upS acc z p) := by
  refine (move_up (sq acc) (stQ z) p (by rw [show (sq acc).length = acc.length from List.length_map _]; exact h)).trans ?_
  unfold sq upS
  simp only [List.map_append, List.map_cons, List.map_nil, List.map_take, List.map_drop]
theorem set_sq {acc : List St} (hs : SortedS gtT acc) (z s : St) : re.set (sq (upS acc z (posB (fun i => gtS s.1 (gS acc i).1) acc.length))) (posB (fun i => gtS s.1 (gS acc i).1) acc.length) (stQ s) = sq (insS gtT s acc) := by
  have hp := posB_le (fun i => gtS s.1 (gS acc i).1) acc.length
  have := posB_ins weakT s acc hs (fun i => gtS s.1 (gS acc i).1) (fun i h => by rw [gS_in h]; rfl)
  rw [← this, ← move_set acc z s _ hp]
  unfold upS
  generalize (acc ++ [z]).take (posB (fun i => gtS s.1 (gS acc i).1) acc.length + 1) ++ acc.drop (posB (fun i => gtS s.1 (gS acc i).1) acc.length) = X
  exact List.map_set.symm
theorem insS_len {α : Type} (g : α → α → Bool) (s : α) : ∀ l : List α, (insS g s l).length = l.length + 1
  | [] => rfl
  | x :: l => by
    unfold insS
    cases g s x with
    | true => rfl
    | false => simp only [List.length_cons, insS_len g s l]
theorem row_sq1 (c t f b : Int) : [R.a [R.i .i64 f, R.i .i64 b, R.i .i64 c, R.i .i64 t]] = [stQ ((f, b), (c, t))] := rfl
theorem L18_7_v {r d : IL} (V : VC r d) (c : Int) (k0 : List R → List R → Int → Int → Option Unit) (x6 : List R) (x7 x8 : Int) : ∀ (s pre : List Nat) (a n : Nat) (acc : List St), Chn r d a s → a < r.length → s.length < n → pre.length + s.length ≤ 100000 → acc.length + s.length ≤ 4000 → SortedS gtT acc → (∀ t ∈ acc, rngT t) →
    L18_7_0 re rk 5000 n k0 (sq acc) c (ints r) (ints d) (ints (nats (pre ++ a :: s))) ((pre.length + 1 : Nat) : Int) x6 x7 x8 = k0 (sq (insL gtT acc (stO c r d a s))) x6 x7 x8 := by
  have hdl := V.1
  intro s
  induction s with
  | nil =>
    intro pre a n acc h ha hn hp hc hs hr
    obtain ⟨n, rfl⟩ : ∃ n', n = n' + 1 := ⟨n - 1, by omega⟩
    have hl : (nats (pre ++ [a])).length = pre.length + 1 := by rw [nats_len]; simp
    have hlt : decide (((pre.length + 1 : Nat) : Int) < ((pre.length + 1 : Nat) : Int)) = false := decide_eq_false (by omega)
    simp only [L18_7_0, GL18_7_0, len_ints, hl, e_on, e_lss, hlt, stO, insL]
  | cons b s ih =>
    intro pre a n acc h ha hn hp hc hs hr
    simp only [List.length_cons] at hn hp hc
    obtain ⟨n, rfl⟩ : ∃ n', n = n' + 1 := ⟨n - 1, by omega⟩
    have hst := stO_ok V c h ha _ (List.mem_cons_self ..)
    obtain ⟨⟨h1, h2, h3⟩, h⟩ := h
    have hl : (nats (pre ++ a :: b :: s)).length = pre.length + s.length + 2 := by rw [nats_len]; simp only [List.length_append, List.length_cons]; omega
    have hlt : decide (((pre.length + 1 : Nat) : Int) < ((pre.length + s.length + 2 : Nat) : Int)) = true := decide_eq_true (by omega)
    have hj : pre.length < (nats (pre ++ a :: b :: s)).length := by omega
    have hj' : pre.length + 1 < (nats (pre ++ a :: b :: s)).length := by omega
    have hsub : re.ar .sub .i64 ((pre.length + 1 : Nat) : Int) 1 = (pre.length : Int) := e_sub1 (j := pre.length + 1) (by omega) (by omega)
    have a1 : a < d.length := by omega
    have b1 : b < d.length := by omega
    have hi1 : re.ix ((pre.length + 1 : Nat) : Int) (pre.length + s.length + 2) = some (pre.length + 1) := e_ix (by omega)
    have hi2 : re.ix (pre.length : Int) (pre.length + s.length + 2) = some pre.length := e_ix (by omega)
    have hp12 := posB_le (fun i => gtS (gI d a - gI d b, gI r b - gI r a) (gS acc i).1) acc.length
    simp only [L18_7_0, GL18_7_0, len_ints, hl, e_on, e_lss, hlt, hsub, hi1, hi2, okC_ints hj, okC_ints hj', ci_ints, gI_mid, gI_mid', e_ix a1, e_ix b1, e_ix ha, e_ix h2, okE_ints a1, okE_ints b1, okE_ints ha, okE_ints h2, V_sd V ha h2, V_sr V h2 ha, len_sq]
    rw [L18_12_v hr (by omega) hst.1 _ _ _ _ _ _ _ _ _ _ _ acc.length 5000 (Nat.le_refl _) (by omega)]
    have hz := set_sq hs ((0, 0), (0, 0)) ((gI d a - gI d b, gI r b - gI r a), (c, (b : Int)))
    have hu := up_sq acc ((0, 0), (0, 0)) (posB (fun i => gtS (gI d a - gI d b, gI r b - gI r a) (gS acc i).1) acc.length) hp12
    have hul := upS_len acc ((0, 0), (0, 0)) (posB (fun i => gtS (gI d a - gI d b, gI r b - gI r a) (gS acc i).1) acc.length) hp12
    generalize hpe : posB (fun i => gtS (gI d a - gI d b, gI r b - gI r a) (gS acc i).1) acc.length = p at hz hu hul hp12 ⊢
    have hl1 : re.len (re.app (sq acc) [stQ ((0, 0), (0, 0))]) = acc.length + 1 := by
      show (sq acc ++ [stQ ((0, 0), (0, 0))]).length = _
      rw [List.length_append, show (sq acc).length = acc.length from List.length_map _]; rfl
    have hsm : re.small (acc.length + 1) 32 = true := small_ok (by omega) (by omega)
    have hs1 : re.sx (((p + 1 : Nat) : Int)) (acc.length + 1) = some (p + 1) := by
      show (if 0 ≤ ((p + 1 : Nat) : Int) ∧ ((p + 1 : Nat) : Int) ≤ ((acc.length + 1 : Nat) : Int) then some ((p + 1 : Nat) : Int).toNat else none) = some (p + 1)
      rw [if_pos (by omega)]; rfl
    have hs2 : re.sx (p : Int) (acc.length + 1) = some p := by
      show (if 0 ≤ (p : Int) ∧ (p : Int) ≤ ((acc.length + 1 : Nat) : Int) then some (p : Int).toNat else none) = some p
      rw [if_pos (by omega)]; rfl
    have hxu : re.ix (p : Int) (re.len (sq (upS acc ((0, 0), (0, 0)) p))) = some p := by
      rw [len_sq, hul]; exact e_ix (by omega)
    have hok := okE_sq (m := upS acc ((0, 0), (0, 0)) p) (i := p) (by omega)
    have hnx := ih (pre ++ [a]) b n (insS gtT ((gI d a - gI d b, gI r b - gI r a), (c, (b : Int))) acc) h h2 (by omega) (by simp only [List.length_append, List.length_cons, List.length_nil]; omega) (by rw [insS_len]; omega) (insS_sorted weakT hs) (by
      intro t ht
      rcases insS_mem.1 ht with rfl | ht
      · exact hst.1
      · exact hr t ht)
    have hnx : L18_7_0 re rk 5000 n k0 (sq (insS gtT ((gI d a - gI d b, gI r b - gI r a), (c, (b : Int))) acc)) c (ints r) (ints d) (ints (nats (pre ++ a :: b :: s))) ((pre.length + 1 + 1 : Nat) : Int) x6 x7 x8 = k0 (sq (insL gtT (insS gtT ((gI d a - gI d b, gI r b - gI r a), (c, (b : Int))) acc) (stO c r d b s))) x6 x7 x8 := by
      simp only [List.append_assoc, List.singleton_append, List.length_append, List.length_cons, List.length_nil] at hnx
      exact hnx
    simp only [hl1] at hu
    simp only [row_sq1, row_sq, e_inc (show p < 4611686018427387904 by omega), hl1]
    simp only [hsm, hs1, hs2, hu, hxu, hok, e_inc (show pre.length + 1 < 4611686018427387904 by omega)]
    rw [hz]
    exact hnx
theorem insL_len {α : Type} (g : α → α → Bool) : ∀ m l : List α, (insL g l m).length = l.length + m.length
  | [], l => rfl
  | x :: m, l => by
    show (insL g (insS g x l) m).length = _
    rw [insL_len g m, insS_len]; simp only [List.length_cons]; omega
theorem insL_mem {α : Type} {g : α → α → Bool} {z : α} : ∀ {m l : List α}, z ∈ insL g l m → z ∈ l ∨ z ∈ m
  | [], l, h => Or.inl h
  | x :: m, l, h => by
    rcases insL_mem (m := m) (l := insS g x l) h with h | h
    · rcases insS_mem.1 h with rfl | h
      · exact Or.inr (List.mem_cons_self ..)
      · exact Or.inl h
    · exact Or.inr (List.mem_cons_of_mem _ h)
section
variable {cs : CL} (V : ∀ i, i < cs.length → VC (gC cs i).1 (gC cs i).2) (hc : cs.length ≤ 40) (hm : ∀ i, i < cs.length → (gC cs i).1.length ≤ 40)
include V hc hm
theorem L18_3_v (k0 : List R → Option Unit) : ∀ (cnt j n : Nat) (acc : List St), j + cnt = cs.length → cnt < n → acc.length ≤ 40 * j → SortedS gtT acc → (∀ t ∈ acc, rngT t) →
    L18_3_0 re rk 5000 n k0 (sq acc) (curs cs) ((cs.length : Nat) : Int) (j : Int) = k0 (sq (insL gtT acc (allS cs cnt j))) := by
  intro cnt
  induction cnt with
  | zero =>
    intro j n acc h hn ha hs hr
    obtain ⟨n, rfl⟩ : ∃ n', n = n' + 1 := ⟨n - 1, by omega⟩
    have hlt : decide ((j : Int) < ((cs.length : Nat) : Int)) = false := decide_eq_false (by omega)
    simp only [L18_3_0, GL18_3_0, e_lss, hlt, allS, insL]
  | succ cnt ih =>
    intro j n acc h hn ha hs hr
    obtain ⟨n, rfl⟩ : ∃ n', n = n' + 1 := ⟨n - 1, by omega⟩
    have hlt : decide ((j : Int) < ((cs.length : Nat) : Int)) = true := decide_eq_true (by omega)
    have h1 : j < cs.length := by omega
    have Vj := V j h1
    have h2 := Vj.2.1
    have h3 := hm j h1
    have hch := tlp_chn (gC cs j).1 (gC cs j).2 (gC cs j).1.length 0 (by omega)
    have hcl := Chn_len hch (by omega)
    have hcr := crv_len Vj
    have hin := fun k0 => L18_7_v Vj (j : Int) k0 (curs cs) ((cs.length : Nat) : Int) (j : Int) (tlp (gC cs j).1 (gC cs j).2 (gC cs j).1.length 0) [] 0 5000 acc hch (by omega) (by omega) (by simp only [List.length_nil]; omega) (by omega) hs hr
    have hin' : ∀ k0, L18_7_0 re rk 5000 5000 k0 (sq acc) (j : Int) (ints (gC cs j).1) (ints (gC cs j).2) (ints (nats (0 :: tlp (gC cs j).1 (gC cs j).2 (gC cs j).1.length 0))) 1 (curs cs) ((cs.length : Nat) : Int) (j : Int) = k0 (sq (insL gtT acc (crv cs j))) (curs cs) ((cs.length : Nat) : Int) (j : Int) := hin
    simp only [L18_3_0, GL18_3_0, e_lss, hlt, len_curs, e_ix h1, okE_curs h1, cl_curs0, cl_curs1, F28_v Vj, hin', e_inc (show j < 4611686018427387904 by omega)]
    have := ih (j + 1) n (insL gtT acc (crv cs j)) (by omega) (by omega) (by rw [insL_len]; omega) (insL_sorted weakT hs) (by
      intro t ht
      rcases insL_mem ht with ht | ht
      · exact hr t ht
      · exact (stO_ok Vj (j : Int) hch (by omega) t ht).1)
    rw [← insL_append] at this
    exact this
theorem F18_v (k : List R → Option Unit) : F18_0 re rk 5000 (curs cs) k = k (sq (insL gtT [] (allS cs cs.length 0))) := by
  unfold F18_0 G18_0
  rw [len_curs, e_on]
  exact L18_3_v V hc hm (fun x => k x) cs.length 0 5000 [] (by omega) (by omega) (Nat.zero_le _) trivial (by simp)
end
end Go.Proofs.YtdjmknhhdkjklaaGreat
