/-
  Packets and code blocks of a tile: the program's and the reference's answer are the same.
-/
import Derived.Test.YthlnfebecphcmaaGreat9c
set_option linter.unusedVariables false
set_option linter.unusedSimpArgs false
set_option maxRecDepth 100000
namespace Go.Proofs.YthlnfebecphcmaaGreat
open Go.Os
open Go.ChangeShapes Go.WideShapes Go.ChangeAt Go.RowKit
abbrev W (x : Int) : Int := IntKind.wrap .i64 x
theorem add_W (x g : Int) : re.ar .add .i64 (W x) g = W (x + g) := W_add x g
theorem add_W2 (x g l : Int) : re.ar .add .i64 (W x) (re.ar .mul .i64 g l) = W (x + g * l) := by
  show IntKind.wrap .i64 (IntKind.wrap .i64 x + IntKind.wrap .i64 (g * l)) = _
  rw [W_add, W_add']
theorem mx_gt (x y : Int) : 65536 < re.mx x y ↔ (65536 < x ∨ 65536 < y) := by
  show 65536 < (if x < y then y else x) ↔ _
  split <;> omega
theorem gt_iff (g : Int) : re.cm .gtr g 65536 = true ↔ 65536 < g := decide_eq_true_iff
theorem bands1 (kn lv co bx xy : Int) (pc : List R) (od ly : Int) (b1 b2 b3 b4 b5 b6 b7 b8 : Bool) (st : List R) (dd sf : Int) (t0 t1 t2 t3 pp p q r s res x y : Int) (cs : List R) (ln ix i1 : Int) (k0 : Int → Int → Int → Int → Int → List R → Int → Int → Bool → Bool → Bool → Bool → Bool → Bool → Bool → Bool → List R → Int → Int → Int → Int → Int → Int → Bool → Int → Int → Int → Int → Int → Int → List R → Int → Int → Option Unit) (k1 : Int → Int → Int → Int → Int → List R → Int → Int → Bool → Bool → Bool → Bool → Bool → Bool → Bool → Bool → List R → Int → Int → Int → Int → Int → Int → Int → Int → Int → Int → Int → Int → List R → Int → Int → Option Unit) :
    L91_14t1_0 re rk 5000 5000 k0 k1 kn lv co bx xy pc od ly b1 b2 b3 b4 b5 b6 b7 b8 st dd sf t0 t1 t2 t3 pp p q r s res x y cs ln ix [R.i .i64 i1] (re.on (re.len [R.i .i64 i1])) 0 =
    F136_0 re rk 5000 p q r s lv i1 (fun a b c d => F134_0 re rk 5000 a b c d (re.mn bx x) (re.mn xy y) (fun g => match re.cm .gtr g 65536 with
      | true => k0 kn lv co bx xy pc od ly b1 b2 b3 b4 b5 b6 b7 b8 st dd sf t0 t1 t2 t3 false pp p q r s res cs ln ix
      | false => k1 kn lv co bx xy pc od ly b1 b2 b3 b4 b5 b6 b7 b8 st dd sf t0 t1 t2 t3 pp p q r s res cs ln ix)) := by kernel_rfl
theorem bands3 (kn lv co bx xy : Int) (pc : List R) (od ly : Int) (b1 b2 b3 b4 b5 b6 b7 b8 : Bool) (st : List R) (dd sf : Int) (t0 t1 t2 t3 pp p q r s res x y : Int) (cs : List R) (ln ix i1 i2 i3 : Int) (k0 : Int → Int → Int → Int → Int → List R → Int → Int → Bool → Bool → Bool → Bool → Bool → Bool → Bool → Bool → List R → Int → Int → Int → Int → Int → Int → Bool → Int → Int → Int → Int → Int → Int → List R → Int → Int → Option Unit) (k1 : Int → Int → Int → Int → Int → List R → Int → Int → Bool → Bool → Bool → Bool → Bool → Bool → Bool → Bool → List R → Int → Int → Int → Int → Int → Int → Int → Int → Int → Int → Int → Int → List R → Int → Int → Option Unit) :
    L91_14t1_0 re rk 5000 5000 k0 k1 kn lv co bx xy pc od ly b1 b2 b3 b4 b5 b6 b7 b8 st dd sf t0 t1 t2 t3 pp p q r s res x y cs ln ix [R.i .i64 i1, R.i .i64 i2, R.i .i64 i3] (re.on (re.len [R.i .i64 i1, R.i .i64 i2, R.i .i64 i3])) 0 =
    F136_0 re rk 5000 p q r s lv i1 (fun a b c d => F134_0 re rk 5000 a b c d (re.mn bx x) (re.mn xy y) (fun g => match re.cm .gtr g 65536 with
      | true => k0 kn lv co bx xy pc od ly b1 b2 b3 b4 b5 b6 b7 b8 st dd sf t0 t1 t2 t3 false pp p q r s res cs ln ix
      | false => F136_0 re rk 5000 p q r s lv i2 (fun a b c d => F134_0 re rk 5000 a b c d (re.mn bx x) (re.mn xy y) (fun g => match re.cm .gtr g 65536 with
        | true => k0 kn lv co bx xy pc od ly b1 b2 b3 b4 b5 b6 b7 b8 st dd sf t0 t1 t2 t3 false pp p q r s res cs ln ix
        | false => F136_0 re rk 5000 p q r s lv i3 (fun a b c d => F134_0 re rk 5000 a b c d (re.mn bx x) (re.mn xy y) (fun g => match re.cm .gtr g 65536 with
          | true => k0 kn lv co bx xy pc od ly b1 b2 b3 b4 b5 b6 b7 b8 st dd sf t0 t1 t2 t3 false pp p q r s res cs ln ix
          | false => k1 kn lv co bx xy pc od ly b1 b2 b3 b4 b5 b6 b7 b8 st dd sf t0 t1 t2 t3 pp p q r s res cs ln ix)))))) := by kernel_rfl
theorem ind_0 (lv : Int) (h : 0 ≤ lv) (h5 : lv ≤ 5) (k : List R → Option Unit) : F111_0 re rk 5000 lv 0 k = k [R.i .i64 0] := by
  unfold F111_0 G111_0 F146_0 G146_0
  simp only [show re.cm .geq lv 0 = true from decide_eq_true h, show re.cm .leq lv 5 = true from decide_eq_true h5, e_bn, Bool.not_true, show re.cm .lss 0 0 = false from rfl, show re.cm .gtr 0 lv = false from decide_eq_false (by omega), show re.cm .eql 0 0 = true from rfl]
theorem ind_s (lv res : Int) (h : 1 ≤ res) (h' : res ≤ lv) (h5 : lv ≤ 5) (k : List R → Option Unit) : F111_0 re rk 5000 lv res k = k [R.i .i64 (3 * res - 2), R.i .i64 (3 * res - 1), R.i .i64 (3 * res)] := by
  have e1 : re.ar .mul .i64 3 res = 3 * res := wrap64 (by omega) (by omega)
  have e2 : re.ar .sub .i64 (3 * res) 2 = 3 * res - 2 := wrap64 (by omega) (by omega)
  have e3 : re.ar .sub .i64 (3 * res) 1 = 3 * res - 1 := wrap64 (by omega) (by omega)
  unfold F111_0 G111_0 F146_0 G146_0
  simp only [show re.cm .geq lv 0 = true from decide_eq_true (by omega), show re.cm .leq lv 5 = true from decide_eq_true h5, e_bn, Bool.not_true, show re.cm .lss res 0 = false from decide_eq_false (by omega), show re.cm .gtr res lv = false from decide_eq_false (by omega), show re.cm .eql res 0 = false from decide_eq_false (by omega), e1, e2, e3]
theorem q3 {i : Int} (h : 0 ≤ i) (h' : i ≤ 15) : re.ar .quo .i64 (re.ar .add .i64 i 2) 3 = (i + 2) / 3 := by
  rw [show re.ar .add .i64 i 2 = i + 2 from wrap64 (by omega) (by omega)]
  show IntKind.wrap .i64 ((i + 2).tdiv 3) = (i + 2) / 3
  rw [Int.tdiv_eq_ediv_of_nonneg (by omega), wrap64 (by omega) (by omega)]
theorem e_inc3 {x : Int} (h : 0 ≤ x) (h' : x ≤ 4097) : re.ar .add .i64 x 1 = x + 1 := e_inc' h h'
theorem nz3 : re.nz 3 = false := rfl
theorem res_loop (a b c d tw th : Int) (cs : List R) (kn lv co bx xy : Int) (pc : List R) (od ly : Int) (b1 b2 b3 b4 b5 b6 b7 b8 : Bool) (st : List R) (dd sf : Int) (hp : ∀ x ∈ pc, shOK (.ag shP2) x) (hf : PF lv bx xy pc ly) (t0 t1 t2 t3 p q r s ln ix : Int) : ∀ (cnt : Nat) (res : Int) (n1 n2 n3 : Nat), 1 ≤ res → res ≤ lv + 1 → (lv + 1 - res).toNat = cnt → cnt < n1 → 3 * cnt < n2 → cnt < n3 →
    ∃ (D : Int) (bad : Bool),
      (∀ (nn : Int) (k0 : Int → Int → Int → Int → Int → Int → List R → Int → Int → Int → Int → Int → List R → Int → Int → Bool → Bool → Bool → Bool → Bool → Bool → Bool → Bool → List R → Int → Int → Int → Int → Int → Int → Int → Int → Option Unit), L64_7_0 re rk 5000 n1 k0 a b c d tw th cs kn lv co bx xy pc od ly b1 b2 b3 b4 b5 b6 b7 b8 st dd sf t0 t1 t2 t3 (W nn) ix p q r s res = k0 a b c d tw th cs kn lv co bx xy pc od ly b1 b2 b3 b4 b5 b6 b7 b8 st dd sf t0 t1 t2 t3 (W (nn + D)) ix) ∧
      (∀ M : Int, ∃ M' : Int, (65536 < M' ↔ (65536 < M ∨ bad = true)) ∧ ∀ (k0 : Int → Int → Int → Int → Int → Int → List R → Int → Int → Int → Int → Int → List R → Int → Int → Bool → Bool → Bool → Bool → Bool → Bool → Bool → Bool → List R → Int → Int → Int → Int → Int → Int → Int → Int → Option Unit), L65_7_0 re rk 5000 n2 k0 a b c d tw th cs kn lv co bx xy pc od ly b1 b2 b3 b4 b5 b6 b7 b8 st dd sf t0 t1 t2 t3 M ix p q r s (3 * res - 2) = k0 a b c d tw th cs kn lv co bx xy pc od ly b1 b2 b3 b4 b5 b6 b7 b8 st dd sf t0 t1 t2 t3 M' ix) ∧
      (∀ pp : Int, ∃ pk : Int, ∀ (k0 : Int → Int → Int → Int → Int → List R → Int → Int → Bool → Bool → Bool → Bool → Bool → Bool → Bool → Bool → List R → Int → Int → Int → Int → Int → Int → Bool → Int → List R → Int → Int → Option Unit) (k1 : Int → Int → Int → Int → Int → List R → Int → Int → Bool → Bool → Bool → Bool → Bool → Bool → Bool → Bool → List R → Int → Int → Int → Int → Int → Int → Int → List R → Int → Int → Option Unit), L91_7t1_0 re rk 5000 n3 k0 k1 kn lv co bx xy pc od ly b1 b2 b3 b4 b5 b6 b7 b8 st dd sf t0 t1 t2 t3 (W pp) p q r s res cs ln ix =
        (match bad with | true => k0 kn lv co bx xy pc od ly b1 b2 b3 b4 b5 b6 b7 b8 st dd sf t0 t1 t2 t3 false pk cs ln ix | false => k1 kn lv co bx xy pc od ly b1 b2 b3 b4 b5 b6 b7 b8 st dd sf t0 t1 t2 t3 (W (pp + D * ly)) cs ln ix)) := by
  intro cnt
  have hf' := hf
  obtain ⟨f1, f2, f3, f4, f5, f6, f7, f8, f9⟩ := hf'
  have m3 : re.ar .mul .i64 3 lv = 3 * lv := wrap64 (by omega) (by omega)
  induction cnt with
  | zero =>
    intro res n1 n2 n3 h1 h0 hc hn1 hn2 hn3
    obtain ⟨n1, rfl⟩ : ∃ n', n1 = n' + 1 := ⟨n1 - 1, by omega⟩
    obtain ⟨n2, rfl⟩ : ∃ n', n2 = n' + 1 := ⟨n2 - 1, by omega⟩
    obtain ⟨n3, rfl⟩ : ∃ n', n3 = n' + 1 := ⟨n3 - 1, by omega⟩
    have hlt : re.cm .leq res lv = false := decide_eq_false (by omega)
    have hlt2 : re.cm .leq (3 * res - 2) (3 * lv) = false := decide_eq_false (by omega)
    refine ⟨0, false, fun nn k0 => ?_, fun M => ⟨M, by simp, fun k0 => ?_⟩, fun pp => ⟨0, fun k0 k1 => ?_⟩⟩
    · simp only [L64_7_0, GL64_7_0, hlt, Int.add_zero]
    · simp only [L65_7_0, GL65_7_0, m3, hlt2]
    · simp only [L91_7t1_0, GL91_7t1_0, hlt, Int.zero_mul, Int.add_zero]
  | succ cnt ih =>
    intro res n1 n2 n3 h1 h0 hc hn1 hn2 hn3
    obtain ⟨n1, rfl⟩ : ∃ n', n1 = n' + 1 := ⟨n1 - 1, by omega⟩
    obtain ⟨n2, rfl⟩ : ∃ n', n2 = n' + 1 + 1 + 1 := ⟨n2 - 3, by omega⟩
    obtain ⟨n3, rfl⟩ : ∃ n', n3 = n' + 1 := ⟨n3 - 1, by omega⟩
    have hr : res ≤ lv := by omega
    have hlt : re.cm .leq res lv = true := decide_eq_true hr
    have hgt : re.cm .gtr res 0 = true := decide_eq_true (by omega)
    have hinc : re.ar .add .i64 res 1 = res + 1 := e_inc' (by omega) (by omega)
    obtain ⟨⟨x1, x2⟩, ⟨y1, y2⟩, hpx⟩ := prec_v kn lv co bx xy pc od ly b1 b2 b3 b4 b5 b6 b7 b8 st dd sf hp hf res (by omega) hr
    have hmn : re.mn res 1 = 1 := by
      show (if (1 : Int) < res then (1 : Int) else res) = 1
      split <;> omega
    obtain ⟨ex1, ex2⟩ := ex_in (bx := bx) (x := px pc res 0) (res := res) (by omega) f3 f4 x1 x2
    obtain ⟨ey1, ey2⟩ := ex_in (bx := xy) (x := px pc res 1) (res := res) (by omega) f5 f6 y1 y2
    rw [ex_s h1] at ex1 ex2 ey1 ey2
    obtain ⟨ra, rb, rc, rd, g, r1, r2, r3, r4⟩ := rescell p q r s hf res (px pc res 0) (px pc res 1) (by omega) hr (by omega) x2 (by omega) y2
    obtain ⟨ba, bb, bc, bd, g1, a1, a2, a3, a4⟩ := bandcell p q r s hf (3 * res - 2) (re.mn bx (re.ar .sub .i64 (px pc res 0) 1)) (re.mn xy (re.ar .sub .i64 (px pc res 1) 1)) (by omega) (by omega) ex1 ex2 ey1 ey2
    obtain ⟨ca, cb, cc, cd, g2, c1, c2, c3, c4⟩ := bandcell p q r s hf (3 * res - 1) (re.mn bx (re.ar .sub .i64 (px pc res 0) 1)) (re.mn xy (re.ar .sub .i64 (px pc res 1) 1)) (by omega) (by omega) ex1 ex2 ey1 ey2
    obtain ⟨da, db, dc, de, g3, d1, d2, d3, d4⟩ := bandcell p q r s hf (3 * res) (re.mn bx (re.ar .sub .i64 (px pc res 0) 1)) (re.mn xy (re.ar .sub .i64 (px pc res 1) 1)) (by omega) (by omega) ex1 ex2 ey1 ey2
    obtain ⟨D, bad, z1, z2, z3⟩ := ih (res + 1) n1 n2 n3 (by omega) (by omega) (by omega) (by omega) (by omega) (by omega)
    have l1 : re.cm .leq (3 * res - 2) (3 * lv) = true := decide_eq_true (by omega)
    have l2 : re.cm .leq (3 * res - 1) (3 * lv) = true := decide_eq_true (by omega)
    have l3 : re.cm .leq (3 * res) (3 * lv) = true := decide_eq_true (by omega)
    have s1 : re.ar .add .i64 (3 * res - 2) 1 = 3 * res - 1 := by rw [e_inc' (by omega) (by omega)]; omega
    have s2 : re.ar .add .i64 (3 * res - 1) 1 = 3 * res := by rw [e_inc' (by omega) (by omega)]; omega
    have s3 : re.ar .add .i64 (3 * res) 1 = 3 * (res + 1) - 2 := by rw [e_inc' (by omega) (by omega)]; omega
    have t1' : re.ar .quo .i64 (re.ar .add .i64 (3 * res - 2) 2) 3 = res := by rw [q3 (by omega) (by omega)]; omega
    have t2' : re.ar .quo .i64 (re.ar .add .i64 (3 * res - 1) 2) 3 = res := by rw [q3 (by omega) (by omega)]; omega
    have t3' : re.ar .quo .i64 (re.ar .add .i64 (3 * res) 2) 3 = res := by rw [q3 (by omega) (by omega)]; omega
    refine ⟨g + D, re.cm .gtr g1 65536 || (re.cm .gtr g2 65536 || (re.cm .gtr g3 65536 || bad)), fun nn k0 => ?_, fun M => ?_, fun pp => ?_⟩
    · simp only [L64_7_0, GL64_7_0, hlt, hpx, r1, r3, add_W, hinc, z1, Int.add_assoc]
    · obtain ⟨M', i1, i2⟩ := z2 (re.mx (re.mx (re.mx M g1) g2) g3)
      refine ⟨M', ?_, fun k0 => ?_⟩
      · rw [i1, mx_gt, mx_gt, mx_gt, Bool.or_eq_true, Bool.or_eq_true, Bool.or_eq_true, gt_iff, gt_iff, gt_iff]
        simp only [or_assoc]
      · simp only [L65_7_0, GL65_7_0, m3, l1, l2, l3, nz3, t1', t2', t3', hpx, hmn, a1, a3, c1, c3, d1, d3, s1, s2, s3, i2]
    · obtain ⟨pk, i1⟩ := z3 (pp + g * ly)
      have hassoc : pp + (g + D) * ly = pp + g * ly + D * ly := by rw [Int.add_mul, Int.add_assoc]
      cases b1' : re.cm .gtr g1 65536 with
      | true => exact ⟨_, fun k0 k1 => by simp only [L91_7t1_0, GL91_7t1_0, hlt, F133_eq, hpx, r2, r4, hgt, ind_s lv res h1 hr f2, bands3, add_W2, a2, a4, b1', Bool.true_or]; rfl⟩
      | false => cases b2' : re.cm .gtr g2 65536 with
        | true => exact ⟨_, fun k0 k1 => by simp only [L91_7t1_0, GL91_7t1_0, hlt, F133_eq, hpx, r2, r4, hgt, ind_s lv res h1 hr f2, bands3, add_W2, a2, a4, c2, c4, b1', b2', Bool.true_or, Bool.false_or]; rfl⟩
        | false => cases b3' : re.cm .gtr g3 65536 with
          | true => exact ⟨_, fun k0 k1 => by simp only [L91_7t1_0, GL91_7t1_0, hlt, F133_eq, hpx, r2, r4, hgt, ind_s lv res h1 hr f2, bands3, add_W2, a2, a4, c2, c4, d2, d4, b1', b2', b3', Bool.true_or, Bool.false_or]; rfl⟩
          | false => exact ⟨pk, fun k0 k1 => by simp only [L91_7t1_0, GL91_7t1_0, hlt, F133_eq, hpx, r2, r4, hgt, ind_s lv res h1 hr f2, bands3, add_W2, a2, a4, c2, c4, d2, d4, b1', b2', b3', Bool.false_or, hinc, i1, hassoc]⟩
theorem comp_v (a b c d tw th : Int) (cs : List R) (kn lv co bx xy : Int) (pc : List R) (od ly : Int) (b1 b2 b3 b4 b5 b6 b7 b8 : Bool) (st : List R) (dd sf : Int) (hp : ∀ x ∈ pc, shOK (.ag shP2) x) (hf : PF lv bx xy pc ly) (t0 t1 t2 t3 p q r s ln ix : Int) :
    ∃ (D : Int) (bad : Bool),
      (∀ (nn : Int) (k0 : Int → Int → Int → Int → Int → Int → List R → Int → Int → Int → Int → Int → List R → Int → Int → Bool → Bool → Bool → Bool → Bool → Bool → Bool → Bool → List R → Int → Int → Int → Int → Int → Int → Int → Int → Option Unit), L64_7_0 re rk 5000 5000 k0 a b c d tw th cs kn lv co bx xy pc od ly b1 b2 b3 b4 b5 b6 b7 b8 st dd sf t0 t1 t2 t3 (W nn) ix p q r s 0 = k0 a b c d tw th cs kn lv co bx xy pc od ly b1 b2 b3 b4 b5 b6 b7 b8 st dd sf t0 t1 t2 t3 (W (nn + D)) ix) ∧
      (∀ M : Int, ∃ M' : Int, (65536 < M' ↔ (65536 < M ∨ bad = true)) ∧ ∀ (k0 : Int → Int → Int → Int → Int → Int → List R → Int → Int → Int → Int → Int → List R → Int → Int → Bool → Bool → Bool → Bool → Bool → Bool → Bool → Bool → List R → Int → Int → Int → Int → Int → Int → Int → Int → Option Unit), L65_7_0 re rk 5000 5000 k0 a b c d tw th cs kn lv co bx xy pc od ly b1 b2 b3 b4 b5 b6 b7 b8 st dd sf t0 t1 t2 t3 M ix p q r s 0 = k0 a b c d tw th cs kn lv co bx xy pc od ly b1 b2 b3 b4 b5 b6 b7 b8 st dd sf t0 t1 t2 t3 M' ix) ∧
      (∀ pp : Int, ∃ pk : Int, ∀ (k0 : Int → Int → Int → Int → Int → List R → Int → Int → Bool → Bool → Bool → Bool → Bool → Bool → Bool → Bool → List R → Int → Int → Int → Int → Int → Int → Bool → Int → List R → Int → Int → Option Unit) (k1 : Int → Int → Int → Int → Int → List R → Int → Int → Bool → Bool → Bool → Bool → Bool → Bool → Bool → Bool → List R → Int → Int → Int → Int → Int → Int → Int → List R → Int → Int → Option Unit), L91_7t1_0 re rk 5000 5000 k0 k1 kn lv co bx xy pc od ly b1 b2 b3 b4 b5 b6 b7 b8 st dd sf t0 t1 t2 t3 (W pp) p q r s 0 cs ln ix =
        (match bad with | true => k0 kn lv co bx xy pc od ly b1 b2 b3 b4 b5 b6 b7 b8 st dd sf t0 t1 t2 t3 false pk cs ln ix | false => k1 kn lv co bx xy pc od ly b1 b2 b3 b4 b5 b6 b7 b8 st dd sf t0 t1 t2 t3 (W (pp + D * ly)) cs ln ix)) := by
  have hf' := hf
  obtain ⟨f1, f2, f3, f4, f5, f6, f7, f8, f9⟩ := hf'
  have m3 : re.ar .mul .i64 3 lv = 3 * lv := wrap64 (by omega) (by omega)
  obtain ⟨D, bad, z1, z2, z3⟩ := res_loop a b c d tw th cs kn lv co bx xy pc od ly b1 b2 b3 b4 b5 b6 b7 b8 st dd sf hp hf t0 t1 t2 t3 p q r s ln ix lv.toNat 1 4999 4999 4999 (by omega) (by omega) (by omega) (by omega) (by omega) (by omega)
  have hlt : re.cm .leq 0 lv = true := decide_eq_true (by omega)
  have hgt : re.cm .gtr 0 0 = false := rfl
  have hinc : re.ar .add .i64 0 1 = 1 := rfl
  obtain ⟨⟨x1, x2⟩, ⟨y1, y2⟩, hpx⟩ := prec_v kn lv co bx xy pc od ly b1 b2 b3 b4 b5 b6 b7 b8 st dd sf hp hf 0 (by omega) f1
  have hmn : re.mn 0 1 = 0 := rfl
  rw [hmn] at x1 y1
  obtain ⟨ex1, ex2⟩ := ex_in (bx := bx) (x := px pc 0 0) (res := 0) (by omega) f3 f4 x1 x2
  obtain ⟨ey1, ey2⟩ := ex_in (bx := xy) (x := px pc 0 1) (res := 0) (by omega) f5 f6 y1 y2
  rw [ex_0 x1 x2] at ex1 ex2
  rw [ex_0 y1 y2] at ey1 ey2
  have u1 : re.ar .sub .i64 (px pc 0 0) 0 = px pc 0 0 := by
    show IntKind.wrap .i64 (px pc 0 0 - 0) = px pc 0 0
    rw [wrap64 (by omega) (by omega)]; omega
  have u2 : re.ar .sub .i64 (px pc 0 1) 0 = px pc 0 1 := by
    show IntKind.wrap .i64 (px pc 0 1 - 0) = px pc 0 1
    rw [wrap64 (by omega) (by omega)]; omega
  obtain ⟨ra, rb, rc, rd, g, r1, r2, r3, r4⟩ := rescell p q r s hf 0 (px pc 0 0) (px pc 0 1) (by omega) f1 x1 x2 y1 y2
  obtain ⟨ba, bb, bc, bd, g1, a1, a2, a3, a4⟩ := bandcell p q r s hf 0 (re.mn bx (px pc 0 0)) (re.mn xy (px pc 0 1)) (by omega) (by omega) ex1 ex2 ey1 ey2
  have l1 : re.cm .leq 0 (3 * lv) = true := decide_eq_true (by omega)
  have t1' : re.ar .quo .i64 (re.ar .add .i64 0 2) 3 = 0 := rfl
  have z2' : ∀ M : Int, ∃ M' : Int, (65536 < M' ↔ (65536 < M ∨ bad = true)) ∧ ∀ (k0 : Int → Int → Int → Int → Int → Int → List R → Int → Int → Int → Int → Int → List R → Int → Int → Bool → Bool → Bool → Bool → Bool → Bool → Bool → Bool → List R → Int → Int → Int → Int → Int → Int → Int → Int → Option Unit), L65_7_0 re rk 5000 4999 k0 a b c d tw th cs kn lv co bx xy pc od ly b1 b2 b3 b4 b5 b6 b7 b8 st dd sf t0 t1 t2 t3 M ix p q r s 1 = k0 a b c d tw th cs kn lv co bx xy pc od ly b1 b2 b3 b4 b5 b6 b7 b8 st dd sf t0 t1 t2 t3 M' ix := z2
  have E1 : ∀ (k0 : Int → Int → Int → Int → Int → Int → List R → Int → Int → Int → Int → Int → List R → Int → Int → Bool → Bool → Bool → Bool → Bool → Bool → Bool → Bool → List R → Int → Int → Int → Int → Int → Int → Int → Int → Option Unit) (n : Int), L64_7_0 re rk 5000 5000 k0 a b c d tw th cs kn lv co bx xy pc od ly b1 b2 b3 b4 b5 b6 b7 b8 st dd sf t0 t1 t2 t3 n ix p q r s 0 = GL64_7_0 re rk (F99_0 re rk 5000) (F101_0 re rk 5000) (F100_0 re rk 5000) (L64_7_0 re rk 5000 4999) k0 a b c d tw th cs kn lv co bx xy pc od ly b1 b2 b3 b4 b5 b6 b7 b8 st dd sf t0 t1 t2 t3 n ix p q r s 0 := fun _ _ => rfl
  have E2 : ∀ (k0 : Int → Int → Int → Int → Int → Int → List R → Int → Int → Int → Int → Int → List R → Int → Int → Bool → Bool → Bool → Bool → Bool → Bool → Bool → Bool → List R → Int → Int → Int → Int → Int → Int → Int → Int → Option Unit) (n : Int), L65_7_0 re rk 5000 5000 k0 a b c d tw th cs kn lv co bx xy pc od ly b1 b2 b3 b4 b5 b6 b7 b8 st dd sf t0 t1 t2 t3 n ix p q r s 0 = GL65_7_0 re rk (F99_0 re rk 5000) (F102_0 re rk 5000) (F100_0 re rk 5000) (L65_7_0 re rk 5000 4999) k0 a b c d tw th cs kn lv co bx xy pc od ly b1 b2 b3 b4 b5 b6 b7 b8 st dd sf t0 t1 t2 t3 n ix p q r s 0 := fun _ _ => rfl
  have E3 : ∀ (k0 : Int → Int → Int → Int → Int → List R → Int → Int → Bool → Bool → Bool → Bool → Bool → Bool → Bool → Bool → List R → Int → Int → Int → Int → Int → Int → Bool → Int → List R → Int → Int → Option Unit) (k1 : Int → Int → Int → Int → Int → List R → Int → Int → Bool → Bool → Bool → Bool → Bool → Bool → Bool → Bool → List R → Int → Int → Int → Int → Int → Int → Int → List R → Int → Int → Option Unit) (n : Int), L91_7t1_0 re rk 5000 5000 k0 k1 kn lv co bx xy pc od ly b1 b2 b3 b4 b5 b6 b7 b8 st dd sf t0 t1 t2 t3 n p q r s 0 cs ln ix = GL91_7t1_0 re rk (F133_1 re rk 5000) (F135_0 re rk 5000) (F134_0 re rk 5000) (F111_0 re rk 5000) (L91_14t1_0 re rk 5000 5000) (L91_7t1_0 re rk 5000 4999) k0 k1 kn lv co bx xy pc od ly b1 b2 b3 b4 b5 b6 b7 b8 st dd sf t0 t1 t2 t3 n p q r s 0 cs ln ix := fun _ _ _ => rfl
  refine ⟨g + D, re.cm .gtr g1 65536 || bad, fun nn k0 => ?_, fun M => ?_, fun pp => ?_⟩
  · simp only [E1, GL64_7_0, hlt, hpx, r1, r3, add_W, hinc, z1, Int.add_assoc]
  · obtain ⟨M', i1, i2⟩ := z2' (re.mx M g1)
    refine ⟨M', ?_, fun k0 => ?_⟩
    · rw [i1, mx_gt, Bool.or_eq_true, gt_iff, or_assoc]
    · simp only [E2, GL65_7_0, m3, l1, nz3, t1', hpx, hmn, u1, u2, a1, a3, hinc, i2]
  · obtain ⟨pk, i1⟩ := z3 (pp + g * ly)
    have hassoc : pp + (g + D) * ly = pp + g * ly + D * ly := by rw [Int.add_mul, Int.add_assoc]
    cases b1' : re.cm .gtr g1 65536 with
    | true => exact ⟨_, fun k0 k1 => by simp only [E3, GL91_7t1_0, hlt, F133_eq, hpx, r2, r4, hgt, ind_0 lv f1 f2, bands1, add_W2, a2, a4, b1', Bool.true_or]; rfl⟩
    | false => exact ⟨pk, fun k0 k1 => by simp only [E3, GL91_7t1_0, hlt, F133_eq, hpx, r2, r4, hgt, ind_0 lv f1 f2, bands1, add_W2, a2, a4, b1', Bool.false_or, hinc, i1, hassoc]⟩
theorem comps_loop (a b c d tw th : Int) (cs : List R) (kn lv co bx xy : Int) (pc : List R) (od ly : Int) (b1 b2 b3 b4 b5 b6 b7 b8 : Bool) (st : List R) (dd sf : Int) (hc : ∀ x ∈ cs, shOK (.ag shC4) x) (hp : ∀ x ∈ pc, shOK (.ag shP2) x) (hf : PF lv bx xy pc ly) (hlen : cs.length < 5000) (t0 t1 t2 t3 : Int) : ∀ (cnt j n1 n2 n3 : Nat), cs.length - j = cnt → j ≤ cs.length → cnt < n1 → cnt < n2 → cnt < n3 →
    ∃ (D : Int) (bad : Bool),
      (∀ (nn : Int) (k0 : Int → Int → Int → Int → Int → List R → Int → Int → Bool → Bool → Bool → Bool → Bool → Bool → Bool → Bool → List R → Int → Int → Int → Option Unit), L64_3_0 re rk 5000 n1 k0 a b c d tw th cs kn lv co bx xy pc od ly b1 b2 b3 b4 b5 b6 b7 b8 st dd sf t0 t1 t2 t3 (W nn) (j : Int) = k0 kn lv co bx xy pc od ly b1 b2 b3 b4 b5 b6 b7 b8 st dd sf (W (nn + D))) ∧
      (∀ M : Int, ∃ M' : Int, (65536 < M' ↔ (65536 < M ∨ bad = true)) ∧ ∀ (k0 : Int → Option Unit), L65_3_0 re rk 5000 n2 k0 a b c d tw th cs kn lv co bx xy pc od ly b1 b2 b3 b4 b5 b6 b7 b8 st dd sf t0 t1 t2 t3 M (j : Int) = k0 M') ∧
      (∀ pp : Int, ∃ pk : Int, ∀ (k0 : Bool → Int → Option Unit) (k1 : Int → Option Unit), L91_3t1_0 re rk 5000 n3 k0 k1 kn lv co bx xy pc od ly b1 b2 b3 b4 b5 b6 b7 b8 st dd sf t0 t1 t2 t3 (W pp) cs (re.on (re.len cs)) (j : Int) = (match bad with | true => k0 false pk | false => k1 (W (pp + D * ly)))) := by
  intro cnt
  induction cnt with
  | zero =>
    intro j n1 n2 n3 h1 h2 hn1 hn2 hn3
    obtain ⟨n1, rfl⟩ : ∃ n', n1 = n' + 1 := ⟨n1 - 1, by omega⟩
    obtain ⟨n2, rfl⟩ : ∃ n', n2 = n' + 1 := ⟨n2 - 1, by omega⟩
    obtain ⟨n3, rfl⟩ : ∃ n', n3 = n' + 1 := ⟨n3 - 1, by omega⟩
    have hlt : re.cm .lss (j : Int) (re.on (re.len cs)) = false := decide_eq_false (by simp only [e_on, e_len]; omega)
    refine ⟨0, false, fun nn k0 => ?_, fun M => ⟨M, by simp, fun k0 => ?_⟩, fun pp => ⟨0, fun k0 k1 => ?_⟩⟩
    · simp only [L64_3_0, GL64_3_0, hlt, Int.add_zero]
    · simp only [L65_3_0, GL65_3_0, hlt]
    · simp only [L91_3t1_0, GL91_3t1_0, hlt, Int.zero_mul, Int.add_zero]
  | succ cnt ih =>
    intro j n1 n2 n3 h1 h2 hn1 hn2 hn3
    obtain ⟨n1, rfl⟩ : ∃ n', n1 = n' + 1 := ⟨n1 - 1, by omega⟩
    obtain ⟨n2, rfl⟩ : ∃ n', n2 = n' + 1 := ⟨n2 - 1, by omega⟩
    obtain ⟨n3, rfl⟩ : ∃ n', n3 = n' + 1 := ⟨n3 - 1, by omega⟩
    have hj : j < cs.length := by omega
    have hlt : re.cm .lss (j : Int) (re.on (re.len cs)) = true := decide_eq_true (by simp only [e_on, e_len]; omega)
    have hix : re.ix (j : Int) (re.len cs) = some j := e_ix hj
    have hok : rk.okE shC4 true cs j = true := okE_ag rfl hc hj
    have hinc : re.ar .add .i64 (j : Int) 1 = ((j + 1 : Nat) : Int) := e_inc (by omega)
    obtain ⟨p, q, r, s, h51⟩ := F58_v 5000 t0 t1 t2 t3 (rk.ci cs j 2) (rk.ci cs j 3)
    obtain ⟨D1, bad1, y1, y2, y3⟩ := comp_v a b c d tw th cs kn lv co bx xy pc od ly b1 b2 b3 b4 b5 b6 b7 b8 st dd sf hp hf t0 t1 t2 t3 p q r s (re.on (re.len cs)) (j : Int)
    obtain ⟨D, bad, z1, z2, z3⟩ := ih (j + 1) n1 n2 n3 (by omega) (by omega) (by omega) (by omega) (by omega)
    refine ⟨D1 + D, bad1 || bad, fun nn k0 => ?_, fun M => ?_, fun pp => ?_⟩
    · simp only [L64_3_0, GL64_3_0, hlt, hix, hok, h51, y1, hinc, z1, Int.add_assoc]
    · obtain ⟨M1, j1, j2⟩ := y2 M
      obtain ⟨M', i1, i2⟩ := z2 M1
      refine ⟨M', ?_, fun k0 => ?_⟩
      · rw [i1, j1, Bool.or_eq_true, or_assoc]
      · simp only [L65_3_0, GL65_3_0, hlt, hix, hok, h51, j2, hinc, i2]
    · obtain ⟨pk1, j1⟩ := y3 pp
      obtain ⟨pk, i1⟩ := z3 (pp + D1 * ly)
      have hassoc : pp + (D1 + D) * ly = pp + D1 * ly + D * ly := by rw [Int.add_mul, Int.add_assoc]
      cases bad1 with
      | true => exact ⟨pk1, fun k0 k1 => by simp only [L91_3t1_0, GL91_3t1_0, hlt, hix, hok, F105_eq, h51, j1, Bool.true_or]⟩
      | false => exact ⟨pk, fun k0 k1 => by simp only [L91_3t1_0, GL91_3t1_0, hlt, hix, hok, F105_eq, h51, j1, Bool.false_or, hinc, i1, hassoc]⟩
theorem fits (a b c d tw th : Int) (cs : List R) (kn lv co bx xy : Int) (pc : List R) (od ly : Int) (b1 b2 b3 b4 b5 b6 b7 b8 : Bool) (st : List R) (dd sf : Int) (hc : ∀ x ∈ cs, shOK (.ag shC4) x) (hp : ∀ x ∈ pc, shOK (.ag shP2) x) (hf : PF lv bx xy pc ly) (hlen : cs.length < 4000) (t0 t1 t2 t3 : Int) :
    ∃ P M : Int, (∀ k : Int → Option Unit, F64_0 re rk 5000 a b c d tw th cs kn lv co bx xy pc od ly b1 b2 b3 b4 b5 b6 b7 b8 st dd sf t0 t1 t2 t3 k = k P) ∧ (∀ k : Int → Option Unit, F65_0 re rk 5000 a b c d tw th cs kn lv co bx xy pc od ly b1 b2 b3 b4 b5 b6 b7 b8 st dd sf t0 t1 t2 t3 k = k M) ∧
      (∀ k : Bool → Option Unit, F91_1 re rk 5000 a b c d tw th cs kn lv co bx xy pc od ly b1 b2 b3 b4 b5 b6 b7 b8 st dd sf t0 t1 t2 t3 k = k (!(re.cm .gtr P 65536) && !(re.cm .gtr M 65536))) := by
  obtain ⟨D, bad, z1, z2, z3⟩ := comps_loop a b c d tw th cs kn lv co bx xy pc od ly b1 b2 b3 b4 b5 b6 b7 b8 st dd sf hc hp hf (by omega) t0 t1 t2 t3 cs.length 0 5000 5000 5000 (by omega) (by omega) (by omega) (by omega) (by omega)
  obtain ⟨M, i1, i2⟩ := z2 0
  obtain ⟨pk, j1⟩ := z3 0
  have z1' : ∀ (k0 : Int → Int → Int → Int → Int → List R → Int → Int → Bool → Bool → Bool → Bool → Bool → Bool → Bool → Bool → List R → Int → Int → Int → Option Unit), L64_3_0 re rk 5000 5000 k0 a b c d tw th cs kn lv co bx xy pc od ly b1 b2 b3 b4 b5 b6 b7 b8 st dd sf t0 t1 t2 t3 0 0 = k0 kn lv co bx xy pc od ly b1 b2 b3 b4 b5 b6 b7 b8 st dd sf (W (0 + D)) := z1 0
  have i2' : ∀ (k0 : Int → Option Unit), L65_3_0 re rk 5000 5000 k0 a b c d tw th cs kn lv co bx xy pc od ly b1 b2 b3 b4 b5 b6 b7 b8 st dd sf t0 t1 t2 t3 0 0 = k0 M := i2
  have j1' : ∀ (k0 : Bool → Int → Option Unit) (k1 : Int → Option Unit), L91_3t1_0 re rk 5000 5000 k0 k1 kn lv co bx xy pc od ly b1 b2 b3 b4 b5 b6 b7 b8 st dd sf t0 t1 t2 t3 0 cs (re.on (re.len cs)) 0 = (match (generalizing := false) bad with | true => k0 false pk | false => k1 (W (0 + D * ly))) := j1
  have hM : re.cm .gtr M 65536 = bad := by
    have hn : ¬ (65536 : Int) < 0 := by omega
    cases bad with
    | true => exact decide_eq_true (i1.2 (Or.inr rfl))
    | false =>
      refine decide_eq_false (fun h => ?_)
      rcases i1.1 h with h | h
      · exact hn h
      · cases h
  have hP : re.ar .mul .i64 (W (0 + D)) ly = W (0 + D * ly) := by
    show IntKind.wrap .i64 (IntKind.wrap .i64 (0 + D) * ly) = IntKind.wrap .i64 (0 + D * ly)
    rw [W_mul, Int.zero_add, Int.zero_add]
  refine ⟨W (0 + D * ly), M, fun k => ?_, fun k => ?_, fun k => ?_⟩
  · unfold F64_0 G64_0
    rw [z1', hP]
  · unfold F65_0 G65_0
    rw [i2']
  · unfold F91_1 G91_1
    rw [j1', hM, gtr_n (W (0 + D * ly))]
    cases bad with
    | true => simp only [Bool.not_true, Bool.not_false, Bool.false_and, Bool.and_false, Bool.true_and, Bool.and_true, Bool.or_false, Bool.or_true, Bool.true_or, Bool.false_or]
    | false => simp only [Bool.not_true, Bool.not_false, Bool.false_and, Bool.and_false, Bool.true_and, Bool.and_true, Bool.or_false, Bool.or_true, Bool.true_or, Bool.false_or]; rw [Bool.not_not]
end Go.Proofs.YthlnfebecphcmaaGreat
