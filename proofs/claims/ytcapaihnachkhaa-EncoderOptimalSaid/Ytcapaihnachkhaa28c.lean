/-
  EncoderOptimal: costs, the other choice, and the loop over the targets.
-/
import Derived.Test.Ytcapaihnachkhaa28b
import Derived.Test.YtcapaihnachkhaaK8
set_option linter.unusedVariables false
set_option linter.unusedSimpArgs false
set_option maxRecDepth 100000
namespace Go.Proofs.Ytcapaihnachkhaa
open Go.Os
open Go.ChangeShapes Go.WideShapes Go.ChangeAt Go.RowKit
def u8s (m : IL) : List R := m.map fun x => R.i .u8 x
theorem len_u8s (m : IL) : re.len (u8s m) = m.length := List.length_map _
theorem ci_u8s {m : IL} {i : Nat} (h : i < m.length) : rk.ci (u8s m) i 0 = gI m i := by
  show rci (cellOf (u8s m) i 0) = _
  unfold cellOf u8s
  rw [List.getElem?_map, List.getElem?_eq_getElem h, gI_in h]
  rfl
theorem okE_u8s {m : IL} {i : Nat} (h : i < m.length) : rk.okE [.i .u8] false (u8s m) i = true := by
  show (match (u8s m)[i]? with | some x => _ | none => false) = true
  unfold u8s
  rw [List.getElem?_map, List.getElem?_eq_getElem h]
  rfl
theorem u8s_of : ∀ {l : List R}, (∀ x ∈ l, shOK (.i .u8) x) → ∃ m, l = u8s m ∧ ∀ x ∈ m, 0 ≤ x ∧ x ≤ 255
  | [], _ => ⟨[], rfl, by simp⟩
  | x :: l, h => by
    obtain ⟨m, rfl, hm⟩ := u8s_of (l := l) fun y hy => h y (by simp [hy])
    obtain ⟨n, rfl, h1, h2⟩ := h x (by simp)
    refine ⟨n :: m, rfl, fun y hy => ?_⟩
    rcases List.mem_cons.1 hy with rfl | hy
    · exact ⟨h1, h2⟩
    · exact hm y hy
theorem okC_chl {m : List IL} {i : Nat} (h : i < m.length) : rk.okC [.sl 1 (.i .i64)] (chl m) i 0 = true := by
  show (match (chl m)[i]? with | some x => _ | none => false) = true
  unfold chl
  rw [List.getElem?_map, List.getElem?_eq_getElem h]
  rfl
theorem sm_rng {f : Nat → Int} {M : Int} : ∀ n, (∀ j, j < n → 0 ≤ f j ∧ f j ≤ M) → 0 ≤ sm f n ∧ sm f n ≤ M * (n : Int)
  | 0, _ => by constructor <;> (show _ ≤ _; simp [sm])
  | n + 1, h => by
    have ih := sm_rng n fun j hj => h j (by omega)
    have := h n (by omega)
    have e : M * ((n + 1 : Nat) : Int) = M * (n : Int) + M := by
      rw [show ((n + 1 : Nat) : Int) = (n : Int) + 1 by omega, Int.mul_add, Int.mul_one]
    rw [e]
    show 0 ≤ sm f n + f n ∧ sm f n + f n ≤ _
    omega
section
variable {cs : CL} (V : ∀ i, i < cs.length → VC (gC cs i).1 (gC cs i).2) (hc : cs.length ≤ 40)
include V hc
theorem L30_v {w : IL} (hw : inC cs w) (k0 : List R → Int → Int → Int → Option Unit) (k1 : List R → Int → Int → Option Unit) : ∀ (cnt j n : Nat), j + cnt = cs.length → cnt < n →
    L30_7_0 re rk 5000 n k0 k1 (ints w) (sm (fun j => gI (gC cs j).1 (gI w j).toNat) j) (sm (fun j => gI (gC cs j).2 (gI w j).toNat) j) (curs cs) ((cs.length : Nat) : Int) (j : Int) = k1 (ints w) (cR cs w) (cD cs w) := by
  intro cnt
  induction cnt with
  | zero =>
    intro j n h hn
    obtain ⟨n, rfl⟩ : ∃ n', n = n' + 1 := ⟨n - 1, by omega⟩
    have hlt : decide ((j : Int) < ((cs.length : Nat) : Int)) = false := decide_eq_false (by omega)
    simp only [L30_7_0, GL30_7_0, e_lss, hlt]
    unfold cR cD
    rw [show cs.length = j by omega]
  | succ cnt ih =>
    intro j n h hn
    obtain ⟨n, rfl⟩ : ∃ n', n = n' + 1 := ⟨n - 1, by omega⟩
    have hlt : decide ((j : Int) < ((cs.length : Nat) : Int)) = true := decide_eq_true (by omega)
    have h1 : j < cs.length := by omega
    have hwl := hw.1
    have h2 : j < w.length := by omega
    obtain ⟨a, e1, e2⟩ := hw.2 j h1
    have hdl := (V j h1).1
    have e3 : a < (gC cs j).2.length := by omega
    have r1 := sm_rng (f := fun j => gI (gC cs j).1 (gI w j).toNat) (M := 65535) j fun i hi => by
      obtain ⟨b, g1, g2⟩ := hw.2 i (by omega)
      simp only [g1, Int.toNat_natCast]
      exact V_r (V i (by omega)) g2
    have r2 := sm_rng (f := fun j => gI (gC cs j).2 (gI w j).toNat) (M := 70368744177664) j fun i hi => by
      obtain ⟨b, g1, g2⟩ := hw.2 i (by omega)
      simp only [g1, Int.toNat_natCast]
      exact V_d (V i (by omega)) g2
    have v1 := V_r (V j h1) e2
    have v2 := V_d (V j h1) e2
    have hneg : decide ((a : Int) < 0) = false := decide_eq_false (by omega)
    have hge : decide ((((gC cs j).1.length : Nat) : Int) ≤ (a : Int)) = false := decide_eq_false (by omega)
    have a1 : re.ar .add .i64 (sm (fun j => gI (gC cs j).1 (gI w j).toNat) j) (gI (gC cs j).1 a) = sm (fun j => gI (gC cs j).1 (gI w j).toNat) (j + 1) := by
      show IntKind.wrap .i64 _ = sm (fun j => gI (gC cs j).1 (gI w j).toNat) j + gI (gC cs j).1 (gI w j).toNat
      rw [e1, Int.toNat_natCast]
      exact wrap64 (by omega) (by omega)
    have a2 : re.ar .add .i64 (sm (fun j => gI (gC cs j).2 (gI w j).toNat) j) (gI (gC cs j).2 a) = sm (fun j => gI (gC cs j).2 (gI w j).toNat) (j + 1) := by
      show IntKind.wrap .i64 _ = sm (fun j => gI (gC cs j).2 (gI w j).toNat) j + gI (gC cs j).2 (gI w j).toNat
      rw [e1, Int.toNat_natCast]
      exact wrap64 (by omega) (by omega)
    simp only [L30_7_0, GL30_7_0, e_lss, e_geq, hlt, len_curs, len_ints, e_on, e_ix h1, e_ix h2, okE_curs h1, okE_ints h2, cl_curs0, cl_curs1, ci_ints, e1, hneg, hge, e_ix e2, e_ix e3, okE_ints e2, okE_ints e3, a1, a2, e_inc (show j < 4611686018427387904 by omega)]
    exact ih (j + 1) n (by omega) (by omega)
theorem F30_v {w : IL} (hw : inC cs w) (k : Int → Int → Int → Option Unit) : F30_0 re rk 5000 (curs cs) (ints w) k = k (cR cs w) (cD cs w) 0 := by
  have e0 : re.cm .neq 0 0 = false := rfl
  have e1 : re.cm .neq ((w.length : Nat) : Int) ((cs.length : Nat) : Int) = false := decide_eq_false (fun h => h (by rw [hw.1]))
  unfold F30_0 G30_0
  simp only [F55_v cs hc, vcs_0 V, e0, len_ints, len_curs, e_on, e1]
  exact L30_v V hc hw (fun _ x4 x5 x6 => k x4 x5 x6) (fun _ x8 x9 => k x8 x9 0) cs.length 0 5000 (by omega) (by omega)
theorem L10_8_v {o : IL} (ho : ∀ x ∈ o, 0 ≤ x ∧ x ≤ 255) (x1 x3 : List R) : ∀ (cnt j n : Nat) (acc : IL), j + cnt = cs.length → cnt < n → acc.length = j → (∀ i, i < j → ∃ a : Nat, gI acc i = (a : Int) ∧ a < (gC cs i).1.length) →
    ∃ w, inC cs w ∧ ∀ k0 : List R → List R → List R → List R → List R → Option Unit, L10_8_0 re rk 5000 n k0 (curs cs) x1 (u8s o) x3 (ints acc) (curs cs) ((cs.length : Nat) : Int) (j : Int) = k0 (curs cs) x1 (u8s o) x3 (ints w) := by
  intro cnt
  induction cnt with
  | zero =>
    intro j n acc h hn ha hi
    obtain ⟨n, rfl⟩ : ∃ n', n = n' + 1 := ⟨n - 1, by omega⟩
    have hlt : decide ((j : Int) < ((cs.length : Nat) : Int)) = false := decide_eq_false (by omega)
    refine ⟨acc, ⟨by omega, fun i h' => hi i (by omega)⟩, fun k0 => ?_⟩
    simp only [L10_8_0, GL10_8_0, e_lss, hlt]
  | succ cnt ih =>
    intro j n acc h hn ha hi
    obtain ⟨n, rfl⟩ : ∃ n', n = n' + 1 := ⟨n - 1, by omega⟩
    have hlt : decide ((j : Int) < ((cs.length : Nat) : Int)) = true := decide_eq_true (by omega)
    have h1 : j < cs.length := by omega
    have hV := (V j h1).2.1
    have hV' := (V j h1).2.2.1
    have next : ∀ a : Nat, a < (gC cs j).1.length → ∀ i, i < j + 1 → ∃ b : Nat, gI (acc ++ [(a : Int)]) i = (b : Int) ∧ b < (gC cs i).1.length := by
      intro a hal i hij
      by_cases e : i = j
      · subst e
        refine ⟨a, ?_, hal⟩
        rw [gI_in (by rw [List.length_append, List.length_cons, List.length_nil]; omega)]
        simp [← ha]
      · obtain ⟨b, g1, g2⟩ := hi i (by omega)
        refine ⟨b, ?_, g2⟩
        rw [← g1, gI_in (show i < acc.length by omega), gI_in (by rw [List.length_append, List.length_cons, List.length_nil]; omega), List.getElem_append_left (by omega)]
    have hs : ∀ x : Int, re.small (re.len (re.app (ints acc) [R.i .i64 x])) 8 = true := by
      intro x
      rw [ints_1, ints_app, len_ints]
      exact small_ok (by simp only [List.length_append, List.length_cons, List.length_nil]; omega) (by simp only [List.length_append, List.length_cons, List.length_nil]; omega)
    by_cases hj : j < o.length
    · have hlt2 : decide ((j : Int) < ((o.length : Nat) : Int)) = true := decide_eq_true (by omega)
      have hx := ho (gI o j) (by rw [gI_in hj]; exact List.getElem_mem hj)
      have hcv : re.cv .i64 (gI o j) = gI o j := wrap64 (by omega) (by omega)
      have hnz : re.nz (((gC cs j).1.length : Nat) : Int) = false := decide_eq_false (by omega)
      have hrem : re.ar .rem .i64 (gI o j) (((gC cs j).1.length : Nat) : Int) = (((gI o j).toNat % (gC cs j).1.length : Nat) : Int) := by
        show (gI o j).tmod (((gC cs j).1.length : Nat) : Int) = _
        have e : gI o j = (((gI o j).toNat : Nat) : Int) := by omega
        generalize (gI o j).toNat = v at e
        rw [e]
        rfl
      have hal : (gI o j).toNat % (gC cs j).1.length < (gC cs j).1.length := Nat.mod_lt _ (by omega)
      obtain ⟨w, hw, hk⟩ := ih (j + 1) n (acc ++ [(((gI o j).toNat % (gC cs j).1.length : Nat) : Int)]) (by omega) (by omega) (by simp only [List.length_append, List.length_cons, List.length_nil]; omega) (next _ hal)
      refine ⟨w, hw, fun k0 => ?_⟩
      simp only [L10_8_0, GL10_8_0, e_lss, hlt, len_curs, len_u8s, e_on, e_ix h1, okE_curs h1, hlt2, e_ix hj, okE_u8s hj, cl_curs0, len_ints, hnz, ci_u8s hj, hcv, hrem, hs, e_inc (show j < 4611686018427387904 by omega)]
      rw [ints_1, ints_app]
      exact hk k0
    · have hlt2 : decide ((j : Int) < ((o.length : Nat) : Int)) = false := decide_eq_false (by omega)
      obtain ⟨w, hw, hk⟩ := ih (j + 1) n (acc ++ [((0 : Nat) : Int)]) (by omega) (by omega) (by simp only [List.length_append, List.length_cons, List.length_nil]; omega) (next 0 (by omega))
      refine ⟨w, hw, fun k0 => ?_⟩
      simp only [L10_8_0, GL10_8_0, e_lss, hlt, len_curs, len_u8s, e_on, e_ix h1, okE_curs h1, hlt2, hs, e_inc (show j < 4611686018427387904 by omega)]
      rw [ints_1, ints_app]
      exact hk k0
omit hc in
theorem fl_in : ∀ (cnt j : Nat) (ch : IL), j + cnt = cs.length → ch.length = cs.length → (∀ i, i < j → ∃ a : Nat, gI ch i = (a : Int) ∧ a < (gC cs i).1.length) → inC cs (fl cs cnt j ch)
  | 0, j, ch, h, hl, hi => ⟨hl, fun i h' => hi i (by omega)⟩
  | cnt + 1, j, ch, h, hl, hi => by
    have h1 := (V j (by omega)).2.1
    have h2 := (V j (by omega)).2.2.1
    unfold fl
    rw [e_sub1 (show 0 < (gC cs j).1.length by omega) (by omega)]
    refine fl_in cnt (j + 1) _ (by omega) (by rw [List.length_set]; exact hl) fun i hij => ?_
    by_cases e : j = i
    · subst e
      exact ⟨_, by rw [gI_set _ (by omega), if_pos rfl], by omega⟩
    · rw [gI_set _ (by omega), if_neg e]
      exact hi i (by omega)
omit hc in
theorem chs_in {t : Int} (ht : -1 ≤ t) : inC cs (chs cs t) := by
  by_cases h : t = -1
  · subst h
    unfold chs
    simp only [decide_true]
    exact fl_in V cs.length 0 _ (by omega) List.length_replicate fun i hi => by omega
  · have hz : inC cs (List.replicate cs.length 0) := ⟨List.length_replicate, fun i hi => ⟨0, rep0 _ _, by have := (V i hi).2.1; omega⟩⟩
    exact (best V (show 0 ≤ t by omega) hz).2.2
theorem L10_19_v {ts w : IL} (hw : inC cs w) (ht : ∀ t ∈ ts, -1 ≤ t) (hl : ts.length ≤ 40) (k0 : List R → Bool → Option Unit) (k1 : List R → Option Unit) : ∀ (cnt j n : Nat), j + cnt = ts.length → cnt < n →
    L10_19_0 re rk 5000 n k0 k1 (curs cs) (chl (ts.map (chs cs))) (cR cs w) (cD cs w) (ints ts) ((ts.length : Nat) : Int) (j : Int) = k1 (curs cs) := by
  intro cnt
  induction cnt with
  | zero =>
    intro j n h hn
    obtain ⟨n, rfl⟩ : ∃ n', n = n' + 1 := ⟨n - 1, by omega⟩
    have hlt : decide ((j : Int) < ((ts.length : Nat) : Int)) = false := decide_eq_false (by omega)
    simp only [L10_19_0, GL10_19_0, e_lss, hlt]
  | succ cnt ih =>
    intro j n h hn
    obtain ⟨n, rfl⟩ : ∃ n', n = n' + 1 := ⟨n - 1, by omega⟩
    have hlt : decide ((j : Int) < ((ts.length : Nat) : Int)) = true := decide_eq_true (by omega)
    have h1 : j < ts.length := by omega
    have h2 : j < (ts.map (chs cs)).length := by rw [List.length_map]; exact h1
    have hg : gL (ts.map (chs cs)) j = chs cs (gI ts j) := by rw [gL_in h2, List.getElem_map, gI_in h1]
    have hx := ht (gI ts j) (by rw [gI_in h1]; exact List.getElem_mem h1)
    have e0 : re.cm .neq 0 0 = false := rfl
    simp only [L10_19_0, GL10_19_0, e_lss, hlt, len_ints, len_chl, e_ix h1, e_ix h2, okE_ints h1, okC_chl h2, cl_chl h2, hg, ci_ints, F30_v V hc (chs_in V hx), e0, e_geq, e_gtr, e_leq, e_inc (show j < 4611686018427387904 by omega), ih (j + 1) n (by omega) (by omega)]
    by_cases h : 0 ≤ gI ts j
    · obtain ⟨b1, b2, _⟩ := best V h hw
      simp only [decide_eq_true h, decide_eq_false (show ¬ gI ts j < cR cs (chs cs (gI ts j)) by omega)]
      by_cases g : cR cs w ≤ cR cs (chs cs (gI ts j))
      · simp only [decide_eq_true g, decide_eq_false (fun h => b2 ⟨g, h⟩)]
      · simp only [decide_eq_false g]
    · simp only [decide_eq_false h]
end
theorem erC_0 {cs : CL} {ts : IL} (h : erC cs ts = 0) : vcs cs = 0 ∧ allB (tgB ts) ts.length 0 = true ∧ chC cs ts = ts.map (chs cs) := by
  unfold erC at h
  unfold chC
  by_cases a : 16 < ts.length
  · rw [decide_eq_true a] at h; cases h
  · rw [decide_eq_false a] at h ⊢
    by_cases b : vcs cs = 0
    · rw [decide_eq_true b] at h ⊢
      cases c : allB (tgB ts) ts.length 0 with
      | false => rw [c] at h; cases h
      | true => exact ⟨b, rfl, rfl⟩
    · rw [decide_eq_false b] at h
      exact absurd h b
theorem p10 (cs : CL) (ts o : IL) (hi : ∀ x ∈ ts, -9223372036854775808 ≤ x ∧ x ≤ 9223372036854775807) (ho : ∀ x ∈ o, 0 ≤ x ∧ x ≤ 255) : F10_0 re rk 5000 (curs cs) (ints ts) (u8s o) (fun y => yes (T.r (R.b y)) []) = some () := by
  unfold F10_0 G10_0
  simp only [F26_v, e_bn]
  cases h : few cs ts with
  | false => rfl
  | true =>
    obtain ⟨hc, ht, hm⟩ := few_in h
    simp only [F27_0, G27_0, F53_v hc hm ht hi, Bool.not_true, e_neq]
    by_cases he : erC cs ts = 0
    · obtain ⟨h1, h2, h3⟩ := erC_0 he
      have V := vcs_all h1
      have hx := tgB_all h2 hi
      have e0 : re.cm .neq 0 0 = false := rfl
      obtain ⟨w, hw, hk⟩ := L10_8_v V hc ho (ints ts) (chl (ts.map (chs cs))) cs.length 0 5000 [] (by omega) (by omega) rfl (fun i hi => by omega)
      have hk' : ∀ k0 : List R → List R → List R → List R → List R → Option Unit, L10_8_0 re rk 5000 5000 k0 (curs cs) (ints ts) (u8s o) (chl (ts.map (chs cs))) [] (curs cs) ((cs.length : Nat) : Int) 0 = k0 (curs cs) (ints ts) (u8s o) (chl (ts.map (chs cs))) (ints w) := hk
      have hle : decide (((ts.map (chs cs)).length : Int) ≠ ((ts.length : Nat) : Int)) = false := decide_eq_false (fun h => h (by rw [List.length_map]))
      simp only [he, h3, decide_eq_false (show ¬ (0 : Int) ≠ 0 from fun h => h rfl), len_chl, len_ints, len_curs, e_on, hle, hk', F30_v V hc hw]
      exact L10_19_v V hc hw (fun t h => (hx t h).1) (by omega) (fun _ xf => yes (T.r (R.b xf)) []) (fun _ => yes (T.r (R.b true)) []) ts.length 0 5000 (by omega) (by omega)
    · simp only [decide_eq_true (show erC cs ts ≠ 0 from he)]
      rfl
end Go.Proofs.Ytcapaihnachkhaa
