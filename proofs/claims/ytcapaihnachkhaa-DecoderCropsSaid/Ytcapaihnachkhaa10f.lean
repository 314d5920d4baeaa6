/-
  DecoderCrops: the cropped image; equal images are reported as equal.
-/
import Derived.Test.Ytcapaihnachkhaa10e
set_option linter.unusedVariables false
set_option linter.unusedSimpArgs false
set_option maxRecDepth 100000
namespace Go.Proofs.Ytcapaihnachkhaa
open Go.Os
open Go.ChangeShapes Go.WideShapes Go.ChangeAt Go.RowKit
theorem planes_start (a b c d tw th : Int) (cs : List R) {ps : List R} (hc : ∀ x ∈ cs, shOK (.ag shC4) x) (hp : ∀ x ∈ ps, shOK (.ag shP) x) (heq : ps.length = cs.length) (hlen : cs.length ≤ 4) (hlen0 : 1 ≤ cs.length) (hd : ∀ i, i < ps.length → (rk.cl ps i 4).length ≤ 1700)
    (hpl : ∀ i, i < ps.length → PL (rk.ci ps i 0) (rk.ci ps i 1) (rk.ci ps i 2) (rk.ci ps i 3) (rk.cl ps i 4)) (u1 u2 u3 u4 u5 u6 : Int) (r1 r2 r3 r4 g1 g2 : Int) (v1 v2 v3 v4 v5 v6 v7 v8 v9 v10 v11 v12 : Int) (kn lv co bx xy : Int) (pc : List R) (od ly : Int) (b1 b2 b3 b4 b5 b6 b7 b8 : Bool) (st : List R) (dd sf : Int) (y1 y2 y3 y4 y5 y6 : Int) (n m : Nat) (hn : 10 < n) (hm : 10 < m) :
    ∃ (o : Option (List R)), (∀ pl, o = some pl → pl.length = cs.length ∧ ∀ x ∈ pl, isP x) ∧
      (∀ (k0 : Int → Int → Int → Int → Int → Int → Int → Int → Int → Int → Int → Int → Int → Int → Int → Int → Int → Int → Int → List R → Int → Int → Int → Int → Int → List R → Int → Int → Bool → Bool → Bool → Bool → Bool → Bool → Bool → Bool → List R → Int → Int → Option Unit) (k1 : Int → Int → Int → Int → Int → Int → Int → Int → Int → Int → Int → Int → Int → Int → Int → Int → Int → Int → List R → Int → Int → Int → Int → Int → List R → Int → Int → Bool → Bool → Bool → Bool → Bool → Bool → Bool → Bool → List R → Int → Int → Option Unit) (k2 : Int → Int → Int → Int → Int → Int → Int → Int → Int → Int → Int → Int → Int → Int → Int → Int → Int → Int → Int → List R → Int → Int → Int → Int → Int → List R → Int → Int → Bool → Bool → Bool → Bool → Bool → Bool → Bool → Bool → List R → Int → Int → List R → Option Unit) (k3 : Int → Int → Int → Int → Int → Int → Int → Int → Int → Int → Int → Int → Int → Int → Int → Int → Int → Int → List R → Int → Int → Int → Int → Int → List R → Int → Int → Bool → Bool → Bool → Bool → Bool → Bool → Bool → Bool → List R → Int → Int → List R → Option Unit) (e : Option Unit) (h0 : k0 0 0 0 0 0 0 2 v1 v2 v3 v4 v5 v6 v7 v8 v9 v10 v11 v12 cs kn lv co bx xy pc od ly b1 b2 b3 b4 b5 b6 b7 b8 st dd sf = e) (h2 : ∀ A, k2 0 0 0 0 0 0 2 v1 v2 v3 v4 v5 v6 v7 v8 v9 v10 v11 v12 cs kn lv co bx xy pc od ly b1 b2 b3 b4 b5 b6 b7 b8 st dd sf A = e),
        L36_10_0 re rk 5000 (n + 1) k0 k1 k2 k3 a b c d tw th cs ps u1 u2 u3 u4 u5 u6 r1 r2 r3 r4 g1 g2 v1 v2 v3 v4 v5 v6 v7 v8 v9 v10 v11 v12 cs kn lv co bx xy pc od ly b1 b2 b3 b4 b5 b6 b7 b8 st dd sf (re.on (re.len cs)) 0 = (match o with | none => e | some pl => k3 u1 u2 u3 u4 u5 u6 v1 v2 v3 v4 v5 v6 v7 v8 v9 v10 v11 v12 cs kn lv co bx xy pc od ly b1 b2 b3 b4 b5 b6 b7 b8 st dd sf pl)) ∧
      (∀ (k0 : Int → Int → Int → Int → Int → Int → Int → Int → Int → Int → Int → Int → Int → List R → Option Unit) (k1 : Int → Int → Int → Int → Int → Int → Int → Int → Int → Int → Int → Int → List R → Option Unit) (k2 : Int → Int → Int → Int → Int → Int → Int → Int → Int → Int → Int → Int → Int → List R → List R → Option Unit) (k3 : Int → Int → Int → Int → Int → Int → Int → Int → Int → Int → Int → Int → List R → List R → Option Unit) (e : Option Unit) (h0 : k0 0 0 0 0 0 0 2 y1 y2 y3 y4 y5 y6 cs = e) (h2 : ∀ A, k2 0 0 0 0 0 0 2 y1 y2 y3 y4 y5 y6 cs A = e),
        L37_11_0 re rk 5000 (m + 1) k0 k1 k2 k3 a b c d tw th cs ps u1 u2 u3 u4 u5 u6 r1 r2 r3 r4 g1 g2 y1 y2 y3 y4 y5 y6 cs (re.on (re.len cs)) 0 = (match o with | none => e | some pl => k3 u1 u2 u3 u4 u5 u6 y1 y2 y3 y4 y5 y6 cs pl)) := by
  have hj : 0 < cs.length := by omega
  have hj2 : 0 < ps.length := by omega
  have hlt : re.cm .lss 0 (re.on (re.len cs)) = true := decide_eq_true (by simp only [e_on, e_len]; omega)
  have hix : re.ix 0 (re.len cs) = some 0 := e_ix (j := 0) hj
  have hix2 : re.ix 0 (re.len ps) = some 0 := e_ix (j := 0) hj2
  have hok : rk.okC shC4 cs 0 0 = true := okC_4 hc hj
  have hok2 : rk.okE shP true ps 0 = true := okE_ag rfl hp hj2
  have hinc : re.ar .add .i64 0 1 = ((1 : Nat) : Int) := rfl
  obtain ⟨p, q, s, t, h51⟩ := F51_v 5000 r1 r2 r3 r4 (rk.ci cs 0 2) (rk.ci cs 0 3)
  cases hv : v66 p q s t with
  | true =>
    obtain ⟨x1, x2, x3, x4, e, he⟩ := crop_e (hpl 0 hj2) (hd 0 hj2) p q s t hv
    refine ⟨none, (fun pl h => by cases h), fun k0 k1 k2 k3 e h0 h2 => by simp only [L36_10_0, GL36_10_0, hlt, hix, hok, F47_eq, h51, F62_v, hv, h0], fun k0 k1 k2 k3 e h0 h2 => ?_⟩
    simp only [L37_11_0, GL37_11_0, hlt, hix, hix2, hok, hok2, h51, he, on0, h0]
    split <;> rfl
  | false =>
    obtain ⟨v1', v2'⟩ := v66_f hv
    obtain ⟨o, o0, o1, o2⟩ := crop_v (hpl 0 hj2) (hd 0 hj2) p q s t v1' v2'
    cases o with
    | none =>
      exact ⟨none, (fun pl h => by cases h), fun k0 k1 k2 k3 e h0 h2 => by simp only [L36_10_0, GL36_10_0, hlt, hix, hix2, hok, hok2, F47_eq, h51, F62_v, hv, o1, two_ne, h0], fun k0 k1 k2 k3 e h0 h2 => by simp only [L37_11_0, GL37_11_0, hlt, hix, hix2, hok, hok2, h51, o2, two_ne, h0]⟩
    | some D =>
      obtain ⟨D1, D2, D3⟩ := o0 D rfl
      have hsm : re.small (re.len [R.a [R.i .i64 p, R.i .i64 q, R.i .i64 s, R.i .i64 t, R.ro 1 D]]) 56 = true := rfl
      have hne : re.cm .eql (re.on (re.len D)) 0 = false := decide_eq_false (by
        simp only [e_on, e_len]
        intro h
        exact D1 (List.eq_nil_of_length_eq_zero (by omega)))
      obtain ⟨z, A1, A2, z0, z1, z2⟩ := planes_loop a b c d tw th cs hc hp heq hlen hd hpl u1 u2 u3 u4 u5 u6 r1 r2 r3 r4 g1 g2 v1 v2 v3 v4 v5 v6 v7 v8 v9 v10 v11 v12 kn lv co bx xy pc od ly b1 b2 b3 b4 b5 b6 b7 b8 st dd sf y1 y2 y3 y4 y5 y6 (cs.length - 1) 1 n m [R.a [R.i .i64 p, R.i .i64 q, R.i .i64 s, R.i .i64 t, R.ro 1 D]] rfl (by omega) (by omega) (by omega) rfl (fun x hx => by
        rw [List.mem_singleton.1 hx]; exact ⟨p, q, s, t, D, rfl, D2, D3⟩)
      refine ⟨z, z0, fun k0 k1 k2 k3 e h0 h2 => ?_, fun k0 k1 k2 k3 e h0 h2 => ?_⟩
      · simp only [L36_10_0, GL36_10_0, hlt, hix, hix2, hok, hok2, F47_eq, h51, F62_v, hv, o1, zero_eq, hsm, hinc, z1]
        cases z with
        | none => exact h2 A1
        | some pl => rfl
      · simp only [L37_11_0, GL37_11_0, hlt, hix, hix2, hok, hok2, h51, o2, zero_eq, hne, hsm, hinc, z2]
        cases z with
        | none => exact h2 A2
        | some pl => rfl
theorem clone_v (a b c d tw th : Int) {cs : List R} (h : 1 ≤ cs.length) (h' : cs.length ≤ 4) (k : Int → Int → Int → Int → Int → Int → List R → Int → Int → Int → Int → Int → List R → Int → Int → Bool → Bool → Bool → Bool → Bool → Bool → Bool → Bool → List R → Int → Int → Option Unit) :
    F63_0 re rk 5000 a b c d tw th cs 0 0 0 0 0 0 0 false false false false false false false false 0 0 k = k a b c d tw th cs 0 0 0 0 0 [] 0 0 false false false false false false false false [] 0 0 := by
  have hn : re.nz (re.on (re.len cs)) = false := decide_eq_false (by simp only [e_on, e_len]; omega)
  have ha : re.app [] cs = cs := rfl
  have hsm : re.small (re.len cs) 32 = true := small_ok (by rw [e_len]; omega)
  unfold F63_0 G63_0 F97_0 G97_0 F98_0 G98_0 F99_0 G99_0
  simp only [hn, ha, hsm]
theorem crops (a b c d tw th : Int) {cs ps : List R} (hc : ∀ x ∈ cs, shOK (.ag shC4) x) (hp : ∀ x ∈ ps, shOK (.ag shP) x) (hlen : ps.length < 5000) (hd : ∀ i, i < ps.length → (rk.cl ps i 4).length ≤ 1700) (w0 w1 w2 w3 : Int) :
    ∃ (o : Option (Int × Int × Int × Int × List R)) (f : Int), (∀ p q r s pl, o = some (p, q, r, s, pl) → cs.length ≤ 4 ∧ pl.length ≤ 4 ∧ ∀ x ∈ pl, isP x) ∧
      (∀ (k0 : Int → Int → Int → Int → Int → Int → Int → Option Unit) (k1 : Int → Int → Int → Int → Int → Int → List R → Int → Option Unit) (k2 : Int → Int → Int → Int → Int → Int → List R → List R → Int → Option Unit), F36_0 re rk 5000 a b c d tw th cs ps w0 w1 w2 w3 k0 k1 k2 = (match o with | none => k0 0 0 0 0 0 0 f | some (p, q, r, s, pl) => k2 p q r s tw th cs pl 0)) ∧
      (∀ (k0 : Int → Int → Int → Int → Int → Int → Int → Option Unit) (k1 : Int → Int → Int → Int → Int → Int → List R → Int → Option Unit) (k2 : Int → Int → Int → Int → Int → Int → List R → List R → Int → Option Unit), F37_0 re rk 5000 a b c d tw th cs ps w0 w1 w2 w3 k0 k1 k2 = (match o with | none => k0 0 0 0 0 0 0 f | some (p, q, r, s, pl) => k2 p q r s tw th cs pl 0)) := by
  obtain ⟨e, e0, e1, e2⟩ := image a b c d tw th hc hp hlen hd
  unfold F36_0 G36_0 F37_0 G37_0
  simp only [e1, e2]
  cases he : re.cm .neq e 0 with
  | true => exact ⟨none, e, (fun p q r s pl h => by cases h), fun k0 k1 k2 => rfl, fun k0 k1 k2 => rfl⟩
  | false =>
    obtain rfl : e = 0 := by
      have := of_decide_eq_false he
      simp only [ne_eq, Classical.not_not] at this
      exact this
    obtain ⟨hf, heq, hpl⟩ := e0 rfl
    have hl4 := hf.2.2.2.2
    have ha : re.app [] cs = cs := rfl
    have hsm : re.small (re.len cs) 32 = true := small_ok (by rw [e_len]; omega)
    have clone := fun k => clone_v a b c d tw th hl4.1 hl4.2 k
    obtain ⟨r1, r2, r3, r4, h64⟩ := F64_v 5000 a b c d w0 w1 w2 w3
    simp only [clone, F60_eq, F61_eq, F62_v, F65_v, F66_v, h64, ha, hsm, e_bn]
    cases v65 w0 w1 w2 w3 with
    | false => exact ⟨none, 2, (fun p q r s pl h => by cases h), fun k0 k1 k2 => rfl, fun k0 k1 k2 => rfl⟩
    | true => cases v66 r1 r2 r3 r4 with
      | true => exact ⟨none, 2, (fun p q r s pl h => by cases h), fun k0 k1 k2 => rfl, fun k0 k1 k2 => rfl⟩
      | false =>
        simp only [Bool.not_true]
        obtain ⟨o, o0, o1, o2⟩ := planes_start a b c d tw th cs hc hp heq hl4.2 hl4.1 hd hpl 0 0 0 0 0 0 r1 r2 r3 r4 tw th r1 r2 r3 r4 tw th a b c d tw th 0 0 0 0 0 [] 0 0 false false false false false false false false [] 0 0 r1 r2 r3 r4 tw th 4999 4999 (by omega) (by omega)
        cases o with
        | none =>
          exact ⟨none, 2, (fun p q r s pl h => by cases h), fun k0 k1 k2 => o1 _ _ _ _ (k0 0 0 0 0 0 0 2) rfl (fun A => rfl), fun k0 k1 k2 => o2 _ _ _ _ (k0 0 0 0 0 0 0 2) rfl (fun A => rfl)⟩
        | some pl =>
          refine ⟨some (r1, r2, r3, r4, pl), 0, (fun p q r s pl' h => by
            cases h
            exact ⟨hl4.2, by rw [(o0 pl rfl).1]; exact hl4.2, (o0 pl rfl).2⟩), fun k0 k1 k2 => o1 _ _ _ _ (k0 0 0 0 0 0 0 2) rfl (fun A => rfl), fun k0 k1 k2 => o2 _ _ _ _ (k0 0 0 0 0 0 0 2) rfl (fun A => rfl)⟩
theorem eql_r (x : Int) : re.cm .eql x x = true := decide_eq_true rfl
theorem neq_r (x : Int) : re.cm .neq x x = false := decide_eq_false (by simp)
theorem be_r (x : Bool) : re.be x x = true := by cases x <;> rfl
theorem same_loop (p q r s t u : Int) {l : List R} (hl : ∀ x ∈ l, shOK (.ag shC4) x) (hlen : l.length < 5000) : ∀ (cnt j n : Nat), l.length - j = cnt → j ≤ l.length → cnt < n →
    ∀ (k0 : Bool → Option Unit) (k1 : Option Unit), L67_4t3_0 re rk 5000 n k0 k1 p q r s t u l p q r s t u l (j : Int) = k1 := by
  intro cnt
  induction cnt with
  | zero =>
    intro j n h1 h2 hn k0 k1
    obtain ⟨n, rfl⟩ : ∃ n', n = n' + 1 := ⟨n - 1, by omega⟩
    have hlt : re.cm .lss (j : Int) (re.on (re.len l)) = false := decide_eq_false (by simp only [e_on, e_len]; omega)
    simp only [L67_4t3_0, GL67_4t3_0, hlt]
  | succ cnt ih =>
    intro j n h1 h2 hn k0 k1
    obtain ⟨n, rfl⟩ : ∃ n', n = n' + 1 := ⟨n - 1, by omega⟩
    have hj : j < l.length := by omega
    have hlt : re.cm .lss (j : Int) (re.on (re.len l)) = true := decide_eq_true (by simp only [e_on, e_len]; omega)
    have hix : re.ix (j : Int) (re.len l) = some j := e_ix hj
    have hok : rk.okE shC4 true l j = true := okE_ag rfl hl hj
    have hinc : re.ar .add .i64 (j : Int) 1 = ((j + 1 : Nat) : Int) := e_inc (by omega)
    have hb : re.bn (re.ba true (re.ba true (re.ba true (re.ba true true)))) = false := rfl
    simp only [L67_4t3_0, GL67_4t3_0, hlt, hix, hok, eql_r, be_r, hb, hinc, ih (j + 1) n (by omega) (by omega) (by omega)]
theorem same_v (p q r s t u : Int) {l : List R} (hl : ∀ x ∈ l, shOK (.ag shC4) x) (hlen : l.length < 5000) (k : Bool → Option Unit) : F67_3 re rk 5000 p q r s t u l p q r s t u l k = k true := by
  have hL : ∀ (k0 : Bool → Option Unit) (k1 : Option Unit), L67_4t3_0 re rk 5000 5000 k0 k1 p q r s t u l p q r s t u l 0 = k1 := same_loop p q r s t u hl hlen l.length 0 5000 (by omega) (by omega) (by omega)
  have hb : re.bn (re.ba true (re.ba true (re.ba true (re.ba true true)))) = false := rfl
  unfold F67_3 G67_3
  simp only [eql_r, neq_r, hb, hL]
theorem F68_z (k : Bool → Option Unit) : F68_0 re rk 5000 0 0 0 0 0 0 0 false false false false false false false false 0 0 0 0 0 0 0 0 0 false false false false false false false false 0 0 k = k true := by kernel_rfl
theorem F38_z (f : Int) (k : Bool → Option Unit) : F38_0 re rk 5000 0 0 0 0 0 0 f 0 0 0 0 0 0 f k = k true := by
  have h : F71_0 re rk 5000 0 0 0 0 0 0 0 0 0 0 0 0 (fun y => k y) = k true := by kernel_rfl
  unfold F38_0 G38_0
  simp only [eql_r]
  exact h
theorem ints_loop {l : List R} (hl : ∀ x ∈ l, shOK (.i .i64) x) (hlen : l.length ≤ 1700) : ∀ (cnt j n : Nat), l.length - j = cnt → j ≤ l.length → cnt < n →
    ∀ (k0 : List R → List R → Bool → Option Unit) (k1 : List R → List R → Option Unit), L122_4_0 re rk 5000 n k0 k1 l l (j : Int) = k1 l l := by
  intro cnt
  induction cnt with
  | zero =>
    intro j n h1 h2 hn k0 k1
    obtain ⟨n, rfl⟩ : ∃ n', n = n' + 1 := ⟨n - 1, by omega⟩
    have hlt : re.cm .lss (j : Int) (re.on (re.len l)) = false := decide_eq_false (by simp only [e_on, e_len]; omega)
    simp only [L122_4_0, GL122_4_0, hlt]
  | succ cnt ih =>
    intro j n h1 h2 hn k0 k1
    obtain ⟨n, rfl⟩ : ∃ n', n = n' + 1 := ⟨n - 1, by omega⟩
    have hj : j < l.length := by omega
    have hlt : re.cm .lss (j : Int) (re.on (re.len l)) = true := decide_eq_true (by simp only [e_on, e_len]; omega)
    have hix : re.ix (j : Int) (re.len l) = some j := e_ix hj
    have hok : rk.okE [.i .i64] false l j = true := okE_1 rfl hl hj
    have hinc : re.ar .add .i64 (j : Int) 1 = ((j + 1 : Nat) : Int) := e_inc (by omega)
    simp only [L122_4_0, GL122_4_0, hlt, hix, hok, neq_r, hinc, ih (j + 1) n (by omega) (by omega) (by omega)]
end Go.Proofs.Ytcapaihnachkhaa
