/-
  Reduced headers: the program's and the reference's answer are the same; equal headers are reported as equal.
-/
import Derived.Test.Ytcapaihnachkhaa9e
set_option linter.unusedVariables false
set_option linter.unusedSimpArgs false
set_option maxRecDepth 100000
namespace Go.Proofs.Ytcapaihnachkhaa
open Go.Os
open Go.ChangeShapes Go.WideShapes Go.ChangeAt Go.RowKit

theorem clone_v (a b c d tw th : Int) {cs : List R} (h : 1 ≤ cs.length) (h' : cs.length ≤ 4) (k : Int → Int → Int → Int → Int → Int → List R → Int → Int → Int → Int → Int → List R → Int → Int → Bool → Bool → Bool → Bool → Bool → Bool → Bool → Bool → List R → Int → Int → Option Unit) :
    F63_0 re rk 5000 a b c d tw th cs 0 0 0 0 0 0 0 false false false false false false false false 0 0 k = k a b c d tw th cs 0 0 0 0 0 [] 0 0 false false false false false false false false [] 0 0 := by
  have hn : re.nz (re.on (re.len cs)) = false := decide_eq_false (by simp only [e_on, e_len]; omega)
  have ha : re.app [] cs = cs := rfl
  have hsm : re.small (re.len cs) 32 = true := small_ok (by rw [e_len]; omega)
  unfold F63_0 G63_0 F97_0 G97_0 F98_0 G98_0 F99_0 G99_0
  simp only [hn, ha, hsm]

theorem reduced (a b c d tw th : Int) (cs : List R) (kn lv co bx xy : Int) (pc : List R) (od ly : Int) (b1 b2 b3 b4 b5 b6 b7 b8 : Bool) (st : List R) (dd sf : Int) (hc : ∀ x ∈ cs, shOK (.ag shC4) x) (hp : ∀ x ∈ pc, shOK (.ag shP2) x) (hs : ∀ x ∈ st, shOK (.i .i64) x) (h5 : pc.length < 5000) (h6 : st.length < 5000) {e : Int} {l : List R} (ht : HT a b c d tw th cs e l) (hll : e = 0 → l.length < 5000) (vl vd w0 w1 w2 w3 : Int) :
    ∃ (o : Option (Int × Int × Int × Int)) (f : Int), (∀ (k0 : Int → Int → Int → Int → Int → Int → Int → Option Unit) (k1 : Int → Int → Int → Int → Int → Int → List R → Int → Option Unit), F33_1 re rk 5000 a b c d tw th cs kn lv co bx xy pc od ly b1 b2 b3 b4 b5 b6 b7 b8 st dd sf vl vd w0 w1 w2 w3 k0 k1 = (match o with | none => k0 0 0 0 0 0 0 f | some (p, q, r, s) => k1 p q r s 4096 4096 cs f)) ∧
      (∀ (k0 : Int → Int → Int → Int → Int → Int → Int → Option Unit) (k1 : Int → Int → Int → Int → Int → Int → List R → Int → Option Unit), F34_0 re rk 5000 a b c d tw th cs kn lv co bx xy pc od ly b1 b2 b3 b4 b5 b6 b7 b8 st dd sf vl vd w0 w1 w2 w3 k0 k1 = (match o with | none => k0 0 0 0 0 0 0 f | some (p, q, r, s) => k1 p q r s 4096 4096 cs f)) := by
  obtain ⟨r, r0, r1, r2⟩ := check a b c d tw th cs kn lv co bx xy pc od ly b1 b2 b3 b4 b5 b6 b7 b8 st dd sf hc hp hs h5 h6 ht hll
  unfold F33_1 G33_1 F34_0 G34_0
  simp only [r1, r2]
  cases hr : re.cm .neq r 0 with
  | true => exact ⟨none, r, fun k0 k1 => rfl, fun k0 k1 => rfl⟩
  | false =>
    obtain rfl : r = 0 := by
      have := of_decide_eq_false hr
      simp only [ne_eq, Classical.not_not] at this
      exact this
    obtain ⟨he, hf⟩ := r0 rfl
    have hlen := (ht.hf he).2.2.2.2
    cases re.cm .lss vl 0 with
    | true => exact ⟨none, 2, fun k0 k1 => rfl, fun k0 k1 => rfl⟩
    | false => cases re.cm .gtr vl 16 with
      | true => exact ⟨none, 2, fun k0 k1 => rfl, fun k0 k1 => rfl⟩
      | false => cases d0 : re.cm .lss vd 0 with
        | true => exact ⟨none, 2, fun k0 k1 => rfl, fun k0 k1 => rfl⟩
        | false => cases d1 : re.cm .gtr vd lv with
          | true => exact ⟨none, 2, fun k0 k1 => rfl, fun k0 k1 => rfl⟩
          | false =>
            have hd0 : 0 ≤ vd := by
              have := of_decide_eq_false d0
              omega
            have hd1 : vd ≤ lv := by
              have := of_decide_eq_false d1
              omega
            have hlv := hf.2.1
            have ha : re.app [] cs = cs := rfl
            have hsm : re.small (re.len cs) 32 = true := small_ok (by rw [e_len]; omega)
            have clone := fun k => clone_v a b c d tw th hlen.1 hlen.2 k
            simp only [cv_u hd0 (show vd ≤ 100 by omega), sh_t hd0, clone, F60_eq, F61_eq, F62_eq, F65_v, F66_v, F47_eq, ha, hsm]
            cases re.bn (re.ba (re.cm .eql w0 0) (re.ba (re.cm .eql w1 0) (re.ba (re.cm .eql w2 0) (re.ba (re.cm .eql w3 0) true)))) with
            | true =>
              obtain ⟨p, q, s, t, h64⟩ := F64_v 5000 a b c d w0 w1 w2 w3
              simp only [h64, e_bn]
              cases v65 w0 w1 w2 w3 with
              | false => exact ⟨none, 2, fun k0 k1 => rfl, fun k0 k1 => rfl⟩
              | true => cases v66 p q s t with
                | true => exact ⟨none, 2, fun k0 k1 => rfl, fun k0 k1 => rfl⟩
                | false =>
                  obtain ⟨p', q', s', t', h51⟩ := F51_v 5000 p q s t (re.ar .shl .i64 1 vd) (re.ar .shl .i64 1 vd)
                  obtain ⟨e', _, g1, g2⟩ := hdr p' q' s' t' 4096 4096 hc
                  simp only [h51, g1, g2, Bool.not_true]
                  cases re.cm .neq e' 0 with
                  | true => exact ⟨none, 2, fun k0 k1 => rfl, fun k0 k1 => rfl⟩
                  | false => exact ⟨some (p', q', s', t'), 0, fun k0 k1 => rfl, fun k0 k1 => rfl⟩
            | false =>
              obtain ⟨p', q', s', t', h51⟩ := F51_v 5000 a b c d (re.ar .shl .i64 1 vd) (re.ar .shl .i64 1 vd)
              obtain ⟨e', _, g1, g2⟩ := hdr p' q' s' t' 4096 4096 hc
              simp only [h51, g1, g2]
              cases re.cm .neq e' 0 with
              | true => exact ⟨none, 2, fun k0 k1 => rfl, fun k0 k1 => rfl⟩
              | false => exact ⟨some (p', q', s', t'), 0, fun k0 k1 => rfl, fun k0 k1 => rfl⟩

theorem eql_r (x : Int) : re.cm .eql x x = true := decide_eq_true rfl
theorem neq_r (x : Int) : re.cm .neq x x = false := decide_eq_false (by simp)
theorem be_r (x : Bool) : re.be x x = true := by cases x <;> rfl

theorem same_loop (p q r s t u : Int) {l : List R} (hl : ∀ x ∈ l, shOK (.ag shC4) x) (hlen : l.length < 5000) : ∀ (cnt j n : Nat), l.length - j = cnt → j ≤ l.length → cnt < n →
    ∀ (k0 : Bool → Option Unit) (k1 : Option Unit), L67_4t3_0 re rk 5000 n k0 k1 p q r s t u l p q r s t u l (j : Int) = k1 := by
  intro cnt
  induction cnt with
  | zero =>
    intro j n h1 h2 hn k0 k1
    obtain ⟨n, rfl⟩ : ∃ n', n = n' + 1 := ⟨n - 1, by omega⟩
    have hlt : re.cm .lss (j : Int) (re.on (re.len l)) = false := decide_eq_false (by simp only [e_on, e_len]; omega)
    simp only [L67_4t3_0, GL67_4t3_0, hlt]
  | succ cnt ih =>
    intro j n h1 h2 hn k0 k1
    obtain ⟨n, rfl⟩ : ∃ n', n = n' + 1 := ⟨n - 1, by omega⟩
    have hj : j < l.length := by omega
    have hlt : re.cm .lss (j : Int) (re.on (re.len l)) = true := decide_eq_true (by simp only [e_on, e_len]; omega)
    have hix : re.ix (j : Int) (re.len l) = some j := e_ix hj
    have hok : rk.okE shC4 true l j = true := okE_ag rfl hl hj
    have hinc : re.ar .add .i64 (j : Int) 1 = ((j + 1 : Nat) : Int) := e_inc (by omega)
    have hb : re.bn (re.ba true (re.ba true (re.ba true (re.ba true true)))) = false := rfl
    simp only [L67_4t3_0, GL67_4t3_0, hlt, hix, hok, eql_r, be_r, hb, hinc, ih (j + 1) n (by omega) (by omega) (by omega)]

theorem same_v (p q r s t u : Int) {l : List R} (hl : ∀ x ∈ l, shOK (.ag shC4) x) (hlen : l.length < 5000) (k : Bool → Option Unit) : F67_3 re rk 5000 p q r s t u l p q r s t u l k = k true := by
  have hL : ∀ (k0 : Bool → Option Unit) (k1 : Option Unit), L67_4t3_0 re rk 5000 5000 k0 k1 p q r s t u l p q r s t u l 0 = k1 := same_loop p q r s t u hl hlen l.length 0 5000 (by omega) (by omega) (by omega)
  have hb : re.bn (re.ba true (re.ba true (re.ba true (re.ba true true)))) = false := rfl
  unfold F67_3 G67_3
  simp only [eql_r, neq_r, hb, hL]

theorem F68_z (k : Bool → Option Unit) : F68_0 re rk 5000 0 0 0 0 0 0 0 false false false false false false false false 0 0 0 0 0 0 0 0 0 false false false false false false false false 0 0 k = k true := by kernel_rfl

theorem F67_z (k : Bool → Option Unit) : F67_0 re rk 5000 0 0 0 0 0 0 0 0 0 0 0 0 k = k true := by kernel_rfl

theorem F32_v (k : Bool → Option Unit) : F32_0 re rk 5000 k = k true := by kernel_rfl

theorem p11 (a b c d tw th : Int) (cs : List R) (kn lv co bx xy : Int) (pc : List R) (od ly : Int) (b1 b2 b3 b4 b5 b6 b7 b8 : Bool) (st : List R) (dd sf : Int) (hc : ∀ x ∈ cs, shOK (.ag shC4) x) (hp : ∀ x ∈ pc, shOK (.ag shP2) x) (hs : ∀ x ∈ st, shOK (.i .i64) x) (vl vd w0 w1 w2 w3 : Int) : F11_0 re rk 5000 a b c d tw th cs kn lv co bx xy pc od ly b1 b2 b3 b4 b5 b6 b7 b8 st dd sf vl vd w0 w1 w2 w3 (fun y => yes (T.r (R.b y)) []) = some () := by
  obtain ⟨v, hv, h1⟩ := few31 a b c d tw th cs kn lv co bx xy pc od ly b1 b2 b3 b4 b5 b6 b7 b8 st dd sf hc hp hs
  unfold F11_0 G11_0
  simp only [h1, F32_v]
  cases v with
  | false => rfl
  | true =>
    obtain ⟨e, l, ht, hll, l2, l3, l1⟩ := hv rfl
    obtain ⟨o, f, g1, g2⟩ := reduced a b c d tw th cs kn lv co bx xy pc od ly b1 b2 b3 b4 b5 b6 b7 b8 st dd sf hc hp hs l2 l3 ht hll vl vd w0 w1 w2 w3
    simp only [g1, g2, e_bn, Bool.not_true]
    cases o with
    | none =>
      unfold F35_0 G35_0
      simp only [F67_z, F68_z, eql_r]
      rfl
    | some x =>
      obtain ⟨p, q, r, s⟩ := x
      unfold F35_3 G35_3
      simp only [same_v p q r s 4096 4096 hc l1, F68_z, eql_r]
      rfl

end Go.Proofs.Ytcapaihnachkhaa
