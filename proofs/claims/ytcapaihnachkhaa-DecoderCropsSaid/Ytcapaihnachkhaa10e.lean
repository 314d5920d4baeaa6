/-
  DecoderCrops: the planes of a cropped image.
-/
import Derived.Test.Ytcapaihnachkhaa10d
set_option linter.unusedVariables false
set_option linter.unusedSimpArgs false
set_option maxRecDepth 100000
namespace Go.Proofs.Ytcapaihnachkhaa
open Go.Os
open Go.ChangeShapes Go.WideShapes Go.ChangeAt Go.RowKit
theorem okC_4 {l : List R} (hl : ∀ x ∈ l, shOK (.ag shC4) x) {i : Nat} (hi : i < l.length) : rk.okC shC4 l i 0 = true := by
  obtain ⟨cs, hx, hc⟩ := hl l[i] (List.getElem_mem hi)
  obtain ⟨_, _, rfl, ⟨_, rfl, _⟩, _, _, rfl, ⟨_, rfl⟩, _, _, rfl, ⟨_, rfl, _⟩, _, _, rfl, ⟨_, rfl, _⟩, rfl⟩ := hc
  show (match l[i]? with | some x => _ | none => false) = true
  rw [List.getElem?_eq_getElem hi, hx]
  rfl
def isP (x : R) : Prop := ∃ (p q r s : Int) (D : List R), x = R.a [R.i .i64 p, R.i .i64 q, R.i .i64 r, R.i .i64 s, R.ro 1 D] ∧ D.length ≤ 1700 ∧ ∀ y ∈ D, shOK (.i .i64) y
theorem ref_empty (a b c d : Int) (l : List R) (p q s t z1 z2 z3 z4 o1 o2 o3 o4 : Int) (h : s ≤ p) (ht : t ≤ 4096) : ∀ (cnt n : Nat) (y : Int), 0 ≤ y → (t - y).toNat = cnt → cnt < n →
    ∀ (k0 : Int → Int → Int → Int → Int → Int → Int → Int → Option Unit) (k1 : Int → Int → Int → Int → Int → Int → Int → Int → List R → Option Unit), L70_7_0 re rk 5000 n k0 k1 a b c d l p q s t z1 z2 z3 z4 o1 o2 o3 o4 y = k0 z1 z2 z3 z4 o1 o2 o3 o4 := by
  intro cnt
  induction cnt with
  | zero =>
    intro n y hy hc hn k0 k1
    obtain ⟨n, rfl⟩ : ∃ n', n = n' + 1 := ⟨n - 1, by omega⟩
    have hlt : re.cm .lss y t = false := decide_eq_false (by omega)
    simp only [L70_7_0, GL70_7_0, hlt]
  | succ cnt ih =>
    intro n y hy hc hn k0 k1
    obtain ⟨n, rfl⟩ : ∃ n', n = n' + 1 := ⟨n - 1, by omega⟩
    have hlt : re.cm .lss y t = true := decide_eq_true (by omega)
    have hlt2 : re.cm .lss p s = false := decide_eq_false (by omega)
    simp only [L70_7_0, GL70_7_0, hlt, L70_10_u, GL70_10_0, hlt2, e_inc' hy (show y ≤ 4097 by omega)]
    exact ih n (y + 1) (by omega) (by omega) (by omega) k0 k1
theorem crop_e {a b c d : Int} {l : List R} (h : PL a b c d l) (hl : l.length ≤ 1700) (p q s t : Int) (h0 : v66 p q s t = true) :
    ∃ (x1 x2 x3 x4 e : Int), ∀ (k0 : Int → Int → Int → Int → Int → Option Unit) (k1 : Int → Int → Int → Int → List R → Int → Option Unit), F70_0 re rk 5000 a b c d l p q s t k0 k1 = k0 x1 x2 x3 x4 e := by
  obtain ⟨u1, u2⟩ := valid_t h hl
  unfold F70_0 G70_0
  simp only [u2, F65_v, e_bn, Bool.not_true]
  cases hv : v65 p q s t with
  | false => exact ⟨0, 0, 0, 0, 2, fun k0 k1 => rfl⟩
  | true =>
    obtain ⟨w1, w2, w3, w4, w5, w6⟩ := v65_on hv
    have hc : ∀ k : Bool → Option Unit, F102_0 re rk 5000 a b c d p q s t k = k true := fun k => by
      unfold F102_0 G102_0
      simp only [F66_v, h0]
    simp only [hc, Bool.not_true]
    refine ⟨p, q, s, t, 0, fun k0 k1 => ?_⟩
    by_cases hps : s ≤ p
    · rw [ref_empty a b c d l p q s t 0 0 0 0 p q s t hps w6 (t - q).toNat 5000 q w4 rfl (by omega)]
    · have hqt : t ≤ q := by
        unfold v66 at h0
        simp only [e_geq, Bool.or_eq_true, decide_eq_true_eq] at h0
        omega
      have hlt : re.cm .lss q t = false := decide_eq_false (by omega)
      simp only [L70_7_u, GL70_7_0, hlt]
theorem small_pl {l : List R} (h : l.length ≤ 5000) : re.small (re.len l) 56 = true := small_le (by omega) (by rw [e_len]; omega)
theorem two_ne : re.cm .neq 2 0 = true := rfl
theorem zero_eq : re.cm .neq 0 0 = false := rfl
theorem on0 : re.cm .eql (re.on 0) 0 = true := rfl
theorem planes_loop (a b c d tw th : Int) (cs : List R) {ps : List R} (hc : ∀ x ∈ cs, shOK (.ag shC4) x) (hp : ∀ x ∈ ps, shOK (.ag shP) x) (heq : ps.length = cs.length) (hlen : cs.length ≤ 4) (hd : ∀ i, i < ps.length → (rk.cl ps i 4).length ≤ 1700)
    (hpl : ∀ i, i < ps.length → PL (rk.ci ps i 0) (rk.ci ps i 1) (rk.ci ps i 2) (rk.ci ps i 3) (rk.cl ps i 4)) (u1 u2 u3 u4 u5 u6 : Int) (r1 r2 r3 r4 g1 g2 : Int) (v1 v2 v3 v4 v5 v6 v7 v8 v9 v10 v11 v12 : Int) (kn lv co bx xy : Int) (pc : List R) (od ly : Int) (b1 b2 b3 b4 b5 b6 b7 b8 : Bool) (st : List R) (dd sf : Int) (y1 y2 y3 y4 y5 y6 : Int) : ∀ (cnt j n m : Nat) (acc : List R), cs.length - j = cnt → j ≤ cs.length → cnt < n → cnt < m → acc.length = j → (∀ x ∈ acc, isP x) →
    ∃ (o : Option (List R)) (A1 A2 : List R), (∀ pl, o = some pl → pl.length = cs.length ∧ ∀ x ∈ pl, isP x) ∧
      (∀ (k0 : Int → Int → Int → Int → Int → Int → Int → Int → Int → Int → Int → Int → Int → Int → Int → Int → Int → Int → Int → List R → Int → Int → Int → Int → Int → List R → Int → Int → Bool → Bool → Bool → Bool → Bool → Bool → Bool → Bool → List R → Int → Int → Option Unit) (k1 : Int → Int → Int → Int → Int → Int → Int → Int → Int → Int → Int → Int → Int → Int → Int → Int → Int → Int → List R → Int → Int → Int → Int → Int → List R → Int → Int → Bool → Bool → Bool → Bool → Bool → Bool → Bool → Bool → List R → Int → Int → Option Unit) (k2 : Int → Int → Int → Int → Int → Int → Int → Int → Int → Int → Int → Int → Int → Int → Int → Int → Int → Int → Int → List R → Int → Int → Int → Int → Int → List R → Int → Int → Bool → Bool → Bool → Bool → Bool → Bool → Bool → Bool → List R → Int → Int → List R → Option Unit) (k3 : Int → Int → Int → Int → Int → Int → Int → Int → Int → Int → Int → Int → Int → Int → Int → Int → Int → Int → List R → Int → Int → Int → Int → Int → List R → Int → Int → Bool → Bool → Bool → Bool → Bool → Bool → Bool → Bool → List R → Int → Int → List R → Option Unit),
        L36_10_1 re rk 5000 n k0 k1 k2 k3 a b c d tw th cs ps u1 u2 u3 u4 u5 u6 r1 r2 r3 r4 g1 g2 v1 v2 v3 v4 v5 v6 v7 v8 v9 v10 v11 v12 cs kn lv co bx xy pc od ly b1 b2 b3 b4 b5 b6 b7 b8 st dd sf (re.on (re.len cs)) (j : Int) acc = (match o with | none => k2 0 0 0 0 0 0 2 v1 v2 v3 v4 v5 v6 v7 v8 v9 v10 v11 v12 cs kn lv co bx xy pc od ly b1 b2 b3 b4 b5 b6 b7 b8 st dd sf A1 | some pl => k3 u1 u2 u3 u4 u5 u6 v1 v2 v3 v4 v5 v6 v7 v8 v9 v10 v11 v12 cs kn lv co bx xy pc od ly b1 b2 b3 b4 b5 b6 b7 b8 st dd sf pl)) ∧
      (∀ (k0 : Int → Int → Int → Int → Int → Int → Int → Int → Int → Int → Int → Int → Int → List R → Option Unit) (k1 : Int → Int → Int → Int → Int → Int → Int → Int → Int → Int → Int → Int → List R → Option Unit) (k2 : Int → Int → Int → Int → Int → Int → Int → Int → Int → Int → Int → Int → Int → List R → List R → Option Unit) (k3 : Int → Int → Int → Int → Int → Int → Int → Int → Int → Int → Int → Int → List R → List R → Option Unit),
        L37_11_1 re rk 5000 m k0 k1 k2 k3 a b c d tw th cs ps u1 u2 u3 u4 u5 u6 r1 r2 r3 r4 g1 g2 y1 y2 y3 y4 y5 y6 cs (re.on (re.len cs)) (j : Int) acc = (match o with | none => k2 0 0 0 0 0 0 2 y1 y2 y3 y4 y5 y6 cs A2 | some pl => k3 u1 u2 u3 u4 u5 u6 y1 y2 y3 y4 y5 y6 cs pl)) := by
  intro cnt
  induction cnt with
  | zero =>
    intro j n m acc h1 h2 hn hm ha hi
    obtain ⟨n, rfl⟩ : ∃ n', n = n' + 1 := ⟨n - 1, by omega⟩
    obtain ⟨m, rfl⟩ : ∃ n', m = n' + 1 := ⟨m - 1, by omega⟩
    have hlt : re.cm .lss (j : Int) (re.on (re.len cs)) = false := decide_eq_false (by simp only [e_on, e_len]; omega)
    exact ⟨some acc, [], [], (fun pl h => by cases h; exact ⟨by omega, hi⟩), fun k0 k1 k2 k3 => by simp only [L36_10_1, GL36_10_1, hlt], fun k0 k1 k2 k3 => by simp only [L37_11_1, GL37_11_1, hlt]⟩
  | succ cnt ih =>
    intro j n m acc h1 h2 hn hm ha hi
    obtain ⟨n, rfl⟩ : ∃ n', n = n' + 1 := ⟨n - 1, by omega⟩
    obtain ⟨m, rfl⟩ : ∃ n', m = n' + 1 := ⟨m - 1, by omega⟩
    have hj : j < cs.length := by omega
    have hj2 : j < ps.length := by omega
    have hlt : re.cm .lss (j : Int) (re.on (re.len cs)) = true := decide_eq_true (by simp only [e_on, e_len]; omega)
    have hix : re.ix (j : Int) (re.len cs) = some j := e_ix hj
    have hix2 : re.ix (j : Int) (re.len ps) = some j := e_ix hj2
    have hok : rk.okC shC4 cs j 0 = true := okC_4 hc hj
    have hok2 : rk.okE shP true ps j = true := okE_ag rfl hp hj2
    have hinc : re.ar .add .i64 (j : Int) 1 = ((j + 1 : Nat) : Int) := e_inc (by omega)
    obtain ⟨p, q, s, t, h51⟩ := F51_v 5000 r1 r2 r3 r4 (rk.ci cs j 2) (rk.ci cs j 3)
    cases hv : v66 p q s t with
    | true =>
      obtain ⟨x1, x2, x3, x4, e, he⟩ := crop_e (hpl j hj2) (hd j hj2) p q s t hv
      refine ⟨none, acc, acc, (fun pl h => by cases h), fun k0 k1 k2 k3 => by simp only [L36_10_1, GL36_10_1, hlt, hix, hok, F47_eq, h51, F62_v, hv], fun k0 k1 k2 k3 => ?_⟩
      simp only [L37_11_1, GL37_11_1, hlt, hix, hix2, hok, hok2, h51, he, on0]
      cases re.cm .neq e 0 <;> rfl
    | false =>
      obtain ⟨v1', v2'⟩ := v66_f hv
      obtain ⟨o, o0, o1, o2⟩ := crop_v (hpl j hj2) (hd j hj2) p q s t v1' v2'
      cases o with
      | none =>
        exact ⟨none, acc, acc, (fun pl h => by cases h), fun k0 k1 k2 k3 => by simp only [L36_10_1, GL36_10_1, hlt, hix, hix2, hok, hok2, F47_eq, h51, F62_v, hv, o1, two_ne], fun k0 k1 k2 k3 => by simp only [L37_11_1, GL37_11_1, hlt, hix, hix2, hok, hok2, h51, o2, two_ne]⟩
      | some D =>
        obtain ⟨D1, D2, D3⟩ := o0 D rfl
        have hlen2 : (re.app acc [R.a [R.i .i64 p, R.i .i64 q, R.i .i64 s, R.i .i64 t, R.ro 1 D]]).length = acc.length + 1 := by simp [re]
        have hsm : re.small (re.len (re.app acc [R.a [R.i .i64 p, R.i .i64 q, R.i .i64 s, R.i .i64 t, R.ro 1 D]])) 56 = true := small_pl (by rw [hlen2]; omega)
        have hne : re.cm .eql (re.on (re.len D)) 0 = false := decide_eq_false (by
          simp only [e_on, e_len]
          intro h
          exact D1 (List.eq_nil_of_length_eq_zero (by omega)))
        obtain ⟨z, A1, A2, z0, z1, z2⟩ := ih (j + 1) n m (re.app acc [R.a [R.i .i64 p, R.i .i64 q, R.i .i64 s, R.i .i64 t, R.ro 1 D]]) (by omega) (by omega) (by omega) (by omega) (by rw [hlen2]; omega) (fun x hx => by
          rcases List.mem_append.1 hx with h | h
          · exact hi x h
          · rw [List.mem_singleton.1 h]; exact ⟨p, q, s, t, D, rfl, D2, D3⟩)
        exact ⟨z, A1, A2, z0, fun k0 k1 k2 k3 => by simp only [L36_10_1, GL36_10_1, hlt, hix, hix2, hok, hok2, F47_eq, h51, F62_v, hv, o1, zero_eq, hsm, hinc, z1], fun k0 k1 k2 k3 => by simp only [L37_11_1, GL37_11_1, hlt, hix, hix2, hok, hok2, h51, o2, zero_eq, hne, hsm, hinc, z2]⟩
end Go.Proofs.Ytcapaihnachkhaa
