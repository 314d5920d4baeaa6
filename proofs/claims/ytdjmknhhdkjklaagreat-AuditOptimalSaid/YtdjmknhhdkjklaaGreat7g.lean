/-
  Choices: the program's and the reference's loops over the steps, and over the curves.
-/
import Derived.Test.YtdjmknhhdkjklaaGreat7f
set_option linter.unusedVariables false
set_option linter.unusedSimpArgs false
set_option maxRecDepth 100000
namespace Go.Proofs.YtdjmknhhdkjklaaGreat
open Go.Os
open Go.ChangeShapes Go.WideShapes Go.ChangeAt Go.RowKit
theorem upd_i {m : IL} {i : Nat} (x : Int) : rk.upd (ints m) i 0 (R.i .i64 x) = ints (m.set i x) := upd_ints x
theorem rep_ints (n : Nat) : re.rep n (R.i .i64 0) = ints (List.replicate n 0) := by
  show List.replicate n (R.i .i64 0) = (List.replicate n 0).map nI
  rw [List.map_replicate]; rfl
theorem mid_in (pre : List St) (x : St) (s : List St) : pre.length < (pre ++ x :: s).length := by
  simp only [List.length_append, List.length_cons]; omega
theorem mid_get (pre : List St) (x : St) (s : List St) : (pre ++ x :: s)[pre.length]'(mid_in pre x s) = x := by simp
theorem sp_m0 (pre : List St) (x : St) (s : List St) : rk.ci (sp (pre ++ x :: s)) pre.length 0 = x.2.1 := by rw [(ci_sp (mid_in pre x s)).1, mid_get]
theorem sp_m1 (pre : List St) (x : St) (s : List St) : rk.ci (sp (pre ++ x :: s)) pre.length 1 = x.2.2 := by rw [(ci_sp (mid_in pre x s)).2.1, mid_get]
theorem sp_m3 (pre : List St) (x : St) (s : List St) : rk.ci (sp (pre ++ x :: s)) pre.length 3 = x.1.2 := by rw [(ci_sp (mid_in pre x s)).2.2.2, mid_get]
theorem sq_m1 (pre : List St) (x : St) (s : List St) : rk.ci (sq (pre ++ x :: s)) pre.length 1 = x.1.2 := by rw [(ci_sq (mid_in pre x s)).2.1, mid_get]
theorem sq_m2 (pre : List St) (x : St) (s : List St) : rk.ci (sq (pre ++ x :: s)) pre.length 2 = x.2.1 := by rw [(ci_sq (mid_in pre x s)).2.2.1, mid_get]
theorem sq_m3 (pre : List St) (x : St) (s : List St) : rk.ci (sq (pre ++ x :: s)) pre.length 3 = x.2.2 := by rw [(ci_sq (mid_in pre x s)).2.2.2, mid_get]
def tk : List St → Int → IL → IL
  | [], _, ch => ch
  | s :: l, b, ch => match decide (b < s.1.2) with
    | true => ch
    | false => tk l (b - s.1.2) (ch.set s.2.1.toNat s.2.2)
theorem L13_16_v (cs : CL) (k : List R → Option Unit) (B : Int) (hB : 0 ≤ B) (hB' : B ≤ 9223372036854775807) : ∀ (s pre : List St) (n : Nat) (r : Int) (ch : IL), s.length < n → pre.length + s.length ≤ 4000 → (∀ t ∈ s, okS cs t) → ch.length = cs.length → 0 ≤ r → r ≤ 65535 * (pre.length : Int) →
    L13_16_0 re rk 5000 n (fun _ y => k y) B (ints ch) r (sq (pre ++ s)) (((pre ++ s).length : Nat) : Int) (pre.length : Int) = k (ints (tk s (B - r) ch)) := by
  intro s
  induction s with
  | nil =>
    intro pre n r ch hn hp ho hc hb hb'
    obtain ⟨n, rfl⟩ : ∃ n', n = n' + 1 := ⟨n - 1, by omega⟩
    have hlt : decide ((pre.length : Int) < ((pre.length : Nat) : Int)) = false := decide_eq_false (by omega)
    simp only [List.append_nil, L13_16_0, GL13_16_0, e_lss, hlt, tk]
  | cons x s ih =>
    intro pre n r ch hn hp ho hc hb hb'
    simp only [List.length_cons] at hn hp
    obtain ⟨n, rfl⟩ : ∃ n', n = n' + 1 := ⟨n - 1, by omega⟩
    have hm := mid_in pre x s
    have hlt : decide ((pre.length : Int) < (((pre ++ x :: s).length : Nat) : Int)) = true := decide_eq_true (by omega)
    obtain ⟨hr, i, hi, hi'⟩ := ho x (List.mem_cons_self ..)
    obtain ⟨_, _, r1, r2⟩ := rngS_in hr
    have hix : re.ix x.2.1 ch.length = some i := by rw [hi]; exact e_ix (by omega)
    have hto : x.2.1.toNat = i := by rw [hi]; rfl
    have hadd : re.ar .add .i64 r x.1.2 = r + x.1.2 := wrap64 (by omega) (by omega)
    simp only [L13_16_0, GL13_16_0, e_lss, hlt, len_sq, e_ix hm, okC_sq hm, sq_m1, sq_m2, sq_m3, e_gtr, tk, len_ints, hix, okC_ints (show i < ch.length by omega), upd_i, hto, hadd, e_inc (show pre.length < 4611686018427387904 by omega)]
    by_cases hb2 : B < r + x.1.2
    · simp only [decide_eq_true hb2, decide_eq_true (show B - r < x.1.2 by omega)]
    · simp only [decide_eq_false hb2, decide_eq_false (show ¬ B - r < x.1.2 by omega)]
      have := ih (pre ++ [x]) n (r + x.1.2) (ch.set i x.2.2) (by omega) (by simp only [List.length_append, List.length_cons, List.length_nil]; omega) (fun t ht => ho t (List.mem_cons_of_mem _ ht)) (by rw [List.length_set]; exact hc) (by omega) (by simp only [List.length_append, List.length_cons, List.length_nil]; omega)
      simp only [List.append_assoc, List.singleton_append, List.length_append, List.length_cons, List.length_nil] at this
      simp only [List.length_append, List.length_cons]
      rw [show B - r - x.1.2 = B - (r + x.1.2) by omega]
      exact this
def fl (cs : CL) : Nat → Nat → IL → IL
  | 0, _, ch => ch
  | c + 1, j, ch => fl cs c (j + 1) (ch.set j (re.ar .sub .i64 (((gC cs j).1.length : Nat) : Int) 1))
theorem L13_9_v (cs : CL) (k : List R → Option Unit) : ∀ (cnt j n : Nat) (ch : IL), j + cnt = cs.length → cnt < n → cs.length ≤ 40 → ch.length = cs.length →
    L13_9_0 re rk 5000 n k (ints ch) (curs cs) ((cs.length : Nat) : Int) (j : Int) = k (ints (fl cs cnt j ch)) := by
  intro cnt
  induction cnt with
  | zero =>
    intro j n ch h hn hl hc
    obtain ⟨n, rfl⟩ : ∃ n', n = n' + 1 := ⟨n - 1, by omega⟩
    have hlt : decide ((j : Int) < ((cs.length : Nat) : Int)) = false := decide_eq_false (by omega)
    simp only [L13_9_0, GL13_9_0, e_lss, hlt, fl]
  | succ cnt ih =>
    intro j n ch h hn hl hc
    obtain ⟨n, rfl⟩ : ∃ n', n = n' + 1 := ⟨n - 1, by omega⟩
    have hlt : decide ((j : Int) < ((cs.length : Nat) : Int)) = true := decide_eq_true (by omega)
    have h1 : j < cs.length := by omega
    have h2 : j < ch.length := by omega
    simp only [L13_9_0, GL13_9_0, e_lss, hlt, len_curs, len_ints, e_ix h1, e_ix h2, okE_curs h1, okC_ints h2, cl_curs0, upd_i, e_on, fl, e_inc (show j < 4611686018427387904 by omega)]
    exact ih (j + 1) n _ (by omega) (by omega) hl (by rw [List.length_set]; exact hc)
noncomputable def chs (cs : CL) (t : Int) : IL := match decide (t = -1) with
  | true => fl cs cs.length 0 (List.replicate cs.length 0)
  | false => tk (srt (allS cs cs.length 0)) t (List.replicate cs.length 0)
section
variable {cs : CL} (V : ∀ i, i < cs.length → VC (gC cs i).1 (gC cs i).2) (hc : cs.length ≤ 40) (hm : ∀ i, i < cs.length → (gC cs i).1.length ≤ 40)
include V hc hm
theorem all_len : (allS cs cs.length 0).length ≤ 1600 := by
  have := allS_len V hm cs.length 0 (by omega)
  omega
omit hc hm in
theorem srt_ok : ∀ t ∈ srt (allS cs cs.length 0), okS cs t := fun t ht => allS_ok V cs.length 0 (by omega) t (srt_mem ht)
omit hc hm in
theorem vcs_0 : vcs cs = 0 := by
  unfold vcs
  rw [show allB (vcC cs) cs.length 0 = true from allB_iff.2 fun i _ h => vc_yes (V i (by omega))]
theorem F13_v (t : Int) (ht : -1 ≤ t) (ht' : t ≤ 9223372036854775807) (k : List R → Int → Option Unit) : F13_0 re rk 5000 (curs cs) t k = k (ints (chs cs t)) 0 := by
  have hl := all_len V hc hm
  have e0 : re.cm .neq 0 0 = false := rfl
  unfold F13_0 G13_0
  simp only [F17_v cs hc, vcs_0 V, e0, e_lss, decide_eq_false (show ¬ t < -1 by omega), len_curs, e_on, mkn_ok (show cs.length * 8 ≤ 70368744177664 by omega) (by omega), sx_ok (Nat.le_refl cs.length), rep_ints, e_eql, F18_v V hc hm]
  by_cases h : t = -1
  · subst h
    simp only [decide_true]
    unfold chs
    simp only [decide_true]
    exact L13_9_v cs (fun x => k x 0) cs.length 0 5000 _ (by omega) (by omega) hc (by rw [List.length_replicate])
  · simp only [decide_eq_false h]
    unfold chs
    simp only [decide_eq_false h, len_sq]
    have := L13_16_v cs (fun x => k x 0) t (by omega) ht' (srt (allS cs cs.length 0)) [] 5000 0 (List.replicate cs.length 0) (by rw [srt_len]; omega) (by rw [srt_len]; simp only [List.length_nil]; omega) (srt_ok V) (by rw [List.length_replicate]) (by omega) (by simp only [List.length_nil]; omega)
    rw [Int.sub_zero] at this
    exact this
end
end Go.Proofs.YtdjmknhhdkjklaaGreat
