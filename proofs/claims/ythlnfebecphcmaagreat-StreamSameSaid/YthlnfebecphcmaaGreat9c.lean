/-
  Resolutions, subbands, cells: the program's and the reference's answer are the same.
-/
import Derived.Test.YthlnfebecphcmaaGreat9b
set_option linter.unusedVariables false
set_option linter.unusedSimpArgs false
set_option maxRecDepth 100000
namespace Go.Proofs.YthlnfebecphcmaaGreat
open Go.Os
open Go.ChangeShapes Go.WideShapes Go.ChangeAt Go.RowKit
theorem F133_eq {β : Type} (N : Nat) : @F133_1 β re rk N = @F99_0 β re rk N := rfl
theorem res_c (a b c d lv res s : Int) (h1 : ∀ k : Int → Int → Int → Int → Option Unit, F101_0 re rk 5000 a b c d lv res k = F58_0 re rk 5000 a b c d s s k) (h2 : ∀ k : Int → Int → Int → Int → Option Unit, F135_0 re rk 5000 a b c d lv res k = F58_0 re rk 5000 a b c d s s k) :
    ∃ p q r s : Int, (∀ k : Int → Int → Int → Int → Option Unit, F101_0 re rk 5000 a b c d lv res k = k p q r s) ∧ (∀ k : Int → Int → Int → Int → Option Unit, F135_0 re rk 5000 a b c d lv res k = k p q r s) := by
  obtain ⟨p, q, r, t, h⟩ := F58_v 5000 a b c d s s
  exact ⟨p, q, r, t, fun k => (h1 k).trans (h k), fun k => (h2 k).trans (h k)⟩
theorem res_v (a b c d lv res : Int) (h : 0 ≤ res) (h' : res ≤ lv) (h5 : lv ≤ 5) : ∃ p q r s : Int, (∀ k : Int → Int → Int → Int → Option Unit, F101_0 re rk 5000 a b c d lv res k = k p q r s) ∧ (∀ k : Int → Int → Int → Int → Option Unit, F135_0 re rk 5000 a b c d lv res k = k p q r s) := by
  have hh : lv = 0 ∨ lv = 1 ∨ lv = 2 ∨ lv = 3 ∨ lv = 4 ∨ lv = 5 := by omega
  rcases hh with rfl | rfl | rfl | rfl | rfl | rfl
  · have hr : res = 0 := by omega
    rcases hr with rfl
    · exact res_c a b c d 0 0 1 (fun k => by kernel_rfl) (fun k => by kernel_rfl)
  · have hr : res = 0 ∨ res = 1 := by omega
    rcases hr with rfl | rfl
    · exact res_c a b c d 1 0 2 (fun k => by kernel_rfl) (fun k => by kernel_rfl)
    · exact res_c a b c d 1 1 1 (fun k => by kernel_rfl) (fun k => by kernel_rfl)
  · have hr : res = 0 ∨ res = 1 ∨ res = 2 := by omega
    rcases hr with rfl | rfl | rfl
    · exact res_c a b c d 2 0 4 (fun k => by kernel_rfl) (fun k => by kernel_rfl)
    · exact res_c a b c d 2 1 2 (fun k => by kernel_rfl) (fun k => by kernel_rfl)
    · exact res_c a b c d 2 2 1 (fun k => by kernel_rfl) (fun k => by kernel_rfl)
  · have hr : res = 0 ∨ res = 1 ∨ res = 2 ∨ res = 3 := by omega
    rcases hr with rfl | rfl | rfl | rfl
    · exact res_c a b c d 3 0 8 (fun k => by kernel_rfl) (fun k => by kernel_rfl)
    · exact res_c a b c d 3 1 4 (fun k => by kernel_rfl) (fun k => by kernel_rfl)
    · exact res_c a b c d 3 2 2 (fun k => by kernel_rfl) (fun k => by kernel_rfl)
    · exact res_c a b c d 3 3 1 (fun k => by kernel_rfl) (fun k => by kernel_rfl)
  · have hr : res = 0 ∨ res = 1 ∨ res = 2 ∨ res = 3 ∨ res = 4 := by omega
    rcases hr with rfl | rfl | rfl | rfl | rfl
    · exact res_c a b c d 4 0 16 (fun k => by kernel_rfl) (fun k => by kernel_rfl)
    · exact res_c a b c d 4 1 8 (fun k => by kernel_rfl) (fun k => by kernel_rfl)
    · exact res_c a b c d 4 2 4 (fun k => by kernel_rfl) (fun k => by kernel_rfl)
    · exact res_c a b c d 4 3 2 (fun k => by kernel_rfl) (fun k => by kernel_rfl)
    · exact res_c a b c d 4 4 1 (fun k => by kernel_rfl) (fun k => by kernel_rfl)
  · have hr : res = 0 ∨ res = 1 ∨ res = 2 ∨ res = 3 ∨ res = 4 ∨ res = 5 := by omega
    rcases hr with rfl | rfl | rfl | rfl | rfl | rfl
    · exact res_c a b c d 5 0 32 (fun k => by kernel_rfl) (fun k => by kernel_rfl)
    · exact res_c a b c d 5 1 16 (fun k => by kernel_rfl) (fun k => by kernel_rfl)
    · exact res_c a b c d 5 2 8 (fun k => by kernel_rfl) (fun k => by kernel_rfl)
    · exact res_c a b c d 5 3 4 (fun k => by kernel_rfl) (fun k => by kernel_rfl)
    · exact res_c a b c d 5 4 2 (fun k => by kernel_rfl) (fun k => by kernel_rfl)
    · exact res_c a b c d 5 5 1 (fun k => by kernel_rfl) (fun k => by kernel_rfl)
theorem place_v (i lv : Int) (h : 0 ≤ i) (h' : i ≤ 3 * lv) (h5 : lv ≤ 5) : ∃ L O : Int, (∀ k : Int → Int → Bool → Option Unit, F141_0 re rk 5000 i lv k = k L O true) ∧ (∀ k : Int → Int → Bool → Option Unit, F165_0 re rk 5000 i lv k = k L O true) ∧
    (i ≠ 0 → re.ar .add .i64 (re.ar .sub .i64 lv L) 1 = (i + 2) / 3 ∧ (O = 1 ∨ O = 2 ∨ O = 3)) := by
  have hh : lv = 0 ∨ lv = 1 ∨ lv = 2 ∨ lv = 3 ∨ lv = 4 ∨ lv = 5 := by omega
  rcases hh with rfl | rfl | rfl | rfl | rfl | rfl
  · have hr : i = 0 := by omega
    rcases hr with rfl
    · exact ⟨0, 0, fun k => by kernel_rfl, fun k => by kernel_rfl, fun h => absurd rfl h⟩
  · have hr : i = 0 ∨ i = 1 ∨ i = 2 ∨ i = 3 := by omega
    rcases hr with rfl | rfl | rfl | rfl
    · exact ⟨1, 0, fun k => by kernel_rfl, fun k => by kernel_rfl, fun h => absurd rfl h⟩
    · exact ⟨1, 1, fun k => by kernel_rfl, fun k => by kernel_rfl, fun _ => ⟨by kernel_rfl, by omega⟩⟩
    · exact ⟨1, 2, fun k => by kernel_rfl, fun k => by kernel_rfl, fun _ => ⟨by kernel_rfl, by omega⟩⟩
    · exact ⟨1, 3, fun k => by kernel_rfl, fun k => by kernel_rfl, fun _ => ⟨by kernel_rfl, by omega⟩⟩
  · have hr : i = 0 ∨ i = 1 ∨ i = 2 ∨ i = 3 ∨ i = 4 ∨ i = 5 ∨ i = 6 := by omega
    rcases hr with rfl | rfl | rfl | rfl | rfl | rfl | rfl
    · exact ⟨2, 0, fun k => by kernel_rfl, fun k => by kernel_rfl, fun h => absurd rfl h⟩
    · exact ⟨2, 1, fun k => by kernel_rfl, fun k => by kernel_rfl, fun _ => ⟨by kernel_rfl, by omega⟩⟩
    · exact ⟨2, 2, fun k => by kernel_rfl, fun k => by kernel_rfl, fun _ => ⟨by kernel_rfl, by omega⟩⟩
    · exact ⟨2, 3, fun k => by kernel_rfl, fun k => by kernel_rfl, fun _ => ⟨by kernel_rfl, by omega⟩⟩
    · exact ⟨1, 1, fun k => by kernel_rfl, fun k => by kernel_rfl, fun _ => ⟨by kernel_rfl, by omega⟩⟩
    · exact ⟨1, 2, fun k => by kernel_rfl, fun k => by kernel_rfl, fun _ => ⟨by kernel_rfl, by omega⟩⟩
    · exact ⟨1, 3, fun k => by kernel_rfl, fun k => by kernel_rfl, fun _ => ⟨by kernel_rfl, by omega⟩⟩
  · have hr : i = 0 ∨ i = 1 ∨ i = 2 ∨ i = 3 ∨ i = 4 ∨ i = 5 ∨ i = 6 ∨ i = 7 ∨ i = 8 ∨ i = 9 := by omega
    rcases hr with rfl | rfl | rfl | rfl | rfl | rfl | rfl | rfl | rfl | rfl
    · exact ⟨3, 0, fun k => by kernel_rfl, fun k => by kernel_rfl, fun h => absurd rfl h⟩
    · exact ⟨3, 1, fun k => by kernel_rfl, fun k => by kernel_rfl, fun _ => ⟨by kernel_rfl, by omega⟩⟩
    · exact ⟨3, 2, fun k => by kernel_rfl, fun k => by kernel_rfl, fun _ => ⟨by kernel_rfl, by omega⟩⟩
    · exact ⟨3, 3, fun k => by kernel_rfl, fun k => by kernel_rfl, fun _ => ⟨by kernel_rfl, by omega⟩⟩
    · exact ⟨2, 1, fun k => by kernel_rfl, fun k => by kernel_rfl, fun _ => ⟨by kernel_rfl, by omega⟩⟩
    · exact ⟨2, 2, fun k => by kernel_rfl, fun k => by kernel_rfl, fun _ => ⟨by kernel_rfl, by omega⟩⟩
    · exact ⟨2, 3, fun k => by kernel_rfl, fun k => by kernel_rfl, fun _ => ⟨by kernel_rfl, by omega⟩⟩
    · exact ⟨1, 1, fun k => by kernel_rfl, fun k => by kernel_rfl, fun _ => ⟨by kernel_rfl, by omega⟩⟩
    · exact ⟨1, 2, fun k => by kernel_rfl, fun k => by kernel_rfl, fun _ => ⟨by kernel_rfl, by omega⟩⟩
    · exact ⟨1, 3, fun k => by kernel_rfl, fun k => by kernel_rfl, fun _ => ⟨by kernel_rfl, by omega⟩⟩
  · have hr : i = 0 ∨ i = 1 ∨ i = 2 ∨ i = 3 ∨ i = 4 ∨ i = 5 ∨ i = 6 ∨ i = 7 ∨ i = 8 ∨ i = 9 ∨ i = 10 ∨ i = 11 ∨ i = 12 := by omega
    rcases hr with rfl | rfl | rfl | rfl | rfl | rfl | rfl | rfl | rfl | rfl | rfl | rfl | rfl
    · exact ⟨4, 0, fun k => by kernel_rfl, fun k => by kernel_rfl, fun h => absurd rfl h⟩
    · exact ⟨4, 1, fun k => by kernel_rfl, fun k => by kernel_rfl, fun _ => ⟨by kernel_rfl, by omega⟩⟩
    · exact ⟨4, 2, fun k => by kernel_rfl, fun k => by kernel_rfl, fun _ => ⟨by kernel_rfl, by omega⟩⟩
    · exact ⟨4, 3, fun k => by kernel_rfl, fun k => by kernel_rfl, fun _ => ⟨by kernel_rfl, by omega⟩⟩
    · exact ⟨3, 1, fun k => by kernel_rfl, fun k => by kernel_rfl, fun _ => ⟨by kernel_rfl, by omega⟩⟩
    · exact ⟨3, 2, fun k => by kernel_rfl, fun k => by kernel_rfl, fun _ => ⟨by kernel_rfl, by omega⟩⟩
    · exact ⟨3, 3, fun k => by kernel_rfl, fun k => by kernel_rfl, fun _ => ⟨by kernel_rfl, by omega⟩⟩
    · exact ⟨2, 1, fun k => by kernel_rfl, fun k => by kernel_rfl, fun _ => ⟨by kernel_rfl, by omega⟩⟩
    · exact ⟨2, 2, fun k => by kernel_rfl, fun k => by kernel_rfl, fun _ => ⟨by kernel_rfl, by omega⟩⟩
    · exact ⟨2, 3, fun k => by kernel_rfl, fun k => by kernel_rfl, fun _ => ⟨by kernel_rfl, by omega⟩⟩
    · exact ⟨1, 1, fun k => by kernel_rfl, fun k => by kernel_rfl, fun _ => ⟨by kernel_rfl, by omega⟩⟩
    · exact ⟨1, 2, fun k => by kernel_rfl, fun k => by kernel_rfl, fun _ => ⟨by kernel_rfl, by omega⟩⟩
    · exact ⟨1, 3, fun k => by kernel_rfl, fun k => by kernel_rfl, fun _ => ⟨by kernel_rfl, by omega⟩⟩
  · have hr : i = 0 ∨ i = 1 ∨ i = 2 ∨ i = 3 ∨ i = 4 ∨ i = 5 ∨ i = 6 ∨ i = 7 ∨ i = 8 ∨ i = 9 ∨ i = 10 ∨ i = 11 ∨ i = 12 ∨ i = 13 ∨ i = 14 ∨ i = 15 := by omega
    rcases hr with rfl | rfl | rfl | rfl | rfl | rfl | rfl | rfl | rfl | rfl | rfl | rfl | rfl | rfl | rfl | rfl
    · exact ⟨5, 0, fun k => by kernel_rfl, fun k => by kernel_rfl, fun h => absurd rfl h⟩
    · exact ⟨5, 1, fun k => by kernel_rfl, fun k => by kernel_rfl, fun _ => ⟨by kernel_rfl, by omega⟩⟩
    · exact ⟨5, 2, fun k => by kernel_rfl, fun k => by kernel_rfl, fun _ => ⟨by kernel_rfl, by omega⟩⟩
    · exact ⟨5, 3, fun k => by kernel_rfl, fun k => by kernel_rfl, fun _ => ⟨by kernel_rfl, by omega⟩⟩
    · exact ⟨4, 1, fun k => by kernel_rfl, fun k => by kernel_rfl, fun _ => ⟨by kernel_rfl, by omega⟩⟩
    · exact ⟨4, 2, fun k => by kernel_rfl, fun k => by kernel_rfl, fun _ => ⟨by kernel_rfl, by omega⟩⟩
    · exact ⟨4, 3, fun k => by kernel_rfl, fun k => by kernel_rfl, fun _ => ⟨by kernel_rfl, by omega⟩⟩
    · exact ⟨3, 1, fun k => by kernel_rfl, fun k => by kernel_rfl, fun _ => ⟨by kernel_rfl, by omega⟩⟩
    · exact ⟨3, 2, fun k => by kernel_rfl, fun k => by kernel_rfl, fun _ => ⟨by kernel_rfl, by omega⟩⟩
    · exact ⟨3, 3, fun k => by kernel_rfl, fun k => by kernel_rfl, fun _ => ⟨by kernel_rfl, by omega⟩⟩
    · exact ⟨2, 1, fun k => by kernel_rfl, fun k => by kernel_rfl, fun _ => ⟨by kernel_rfl, by omega⟩⟩
    · exact ⟨2, 2, fun k => by kernel_rfl, fun k => by kernel_rfl, fun _ => ⟨by kernel_rfl, by omega⟩⟩
    · exact ⟨2, 3, fun k => by kernel_rfl, fun k => by kernel_rfl, fun _ => ⟨by kernel_rfl, by omega⟩⟩
    · exact ⟨1, 1, fun k => by kernel_rfl, fun k => by kernel_rfl, fun _ => ⟨by kernel_rfl, by omega⟩⟩
    · exact ⟨1, 2, fun k => by kernel_rfl, fun k => by kernel_rfl, fun _ => ⟨by kernel_rfl, by omega⟩⟩
    · exact ⟨1, 3, fun k => by kernel_rfl, fun k => by kernel_rfl, fun _ => ⟨by kernel_rfl, by omega⟩⟩
def hup (x : Int) : Int := re.ar .quo .i64 (re.ar .add .i64 x 1) 2
def hdn (x : Int) : Int := re.ar .quo .i64 x 2
theorem hz (x : Int) (h : 0 ≤ x) (h' : x ≤ 4096) : re.ar .quo .i64 (re.ar .add .i64 x 0) 2 = hdn x := by
  rw [show re.ar .add .i64 x 0 = x by
    show IntKind.wrap .i64 (x + 0) = x
    rw [wrap64 (by omega) (by omega), Int.add_zero]]
  rfl
abbrev T16 := Int → Int → Int → Int → Int → Int → Int → Int → Int → Int → Int → Int → Int → Int → Int → Int → Option Unit
theorem F142_v {a b c d : Int} (h : v65 a b c d = true) (k : T16) : F142_0 re rk 5000 a b c d k = k (hup a) (hup b) (hup c) (hup d) (hdn a) (hup b) (hdn c) (hup d) (hup a) (hdn b) (hup c) (hdn d) (hdn a) (hdn b) (hdn c) (hdn d) := by
  unfold F142_0 G142_0
  simp only [F55_v, h, e_bn, Bool.not_true]
  kernel_rfl
theorem F142_z {a b c d : Int} (h : v65 a b c d = false) (k : T16) : F142_0 re rk 5000 a b c d k = k 0 0 0 0 0 0 0 0 0 0 0 0 0 0 0 0 := by
  unfold F142_0 G142_0
  simp only [F55_v, h, e_bn, Bool.not_false]
theorem F166_v {a b c d : Int} (h : v65 a b c d = true) (k : T16) : F166_0 re rk 5000 a b c d k = k (hup a) (hup b) (hup c) (hup d) (hdn a) (hup b) (hdn c) (hup d) (hup a) (hdn b) (hup c) (hdn d) (hdn a) (hdn b) (hdn c) (hdn d) := by
  obtain ⟨h1, h2, h3, h4, h5, h6, h7, h8⟩ := v65_in h
  rw [← hz a h1 h2, ← hz b h3 h4, ← hz c h7 h5, ← hz d h8 h6]
  unfold F166_0 G166_0
  simp only [F103_eq, F55_v, h, e_bn, Bool.not_true]
  kernel_rfl
theorem F166_z {a b c d : Int} (h : v65 a b c d = false) (k : T16) : F166_0 re rk 5000 a b c d k = k 0 0 0 0 0 0 0 0 0 0 0 0 0 0 0 0 := by
  unfold F166_0 G166_0
  simp only [F103_eq, F55_v, h, e_bn, Bool.not_false]
theorem band_v (a b c d lv i : Int) (h : 0 ≤ i) (h' : i ≤ 3 * lv) (h5 : lv ≤ 5) : ∃ p q r s : Int, (∀ k : Int → Int → Int → Int → Option Unit, F102_0 re rk 5000 a b c d lv i k = k p q r s) ∧ (∀ k : Int → Int → Int → Int → Option Unit, F136_0 re rk 5000 a b c d lv i k = k p q r s) := by
  obtain ⟨L, O, p1, p2, p3⟩ := place_v i lv h h' h5
  unfold F102_0 G102_0 F136_0 G136_0
  simp only [p1, p2, F103_eq, F55_v, e_bn, Bool.not_true]
  cases hv : v65 a b c d with
  | false => exact ⟨0, 0, 0, 0, fun k => rfl, fun k => rfl⟩
  | true =>
    simp only [Bool.not_true]
    by_cases hi : i = 0
    · obtain ⟨p, q, r, s, r1, r2⟩ := res_v a b c d lv 0 (by omega) (by omega) h5
      have e0 : re.cm .eql i 0 = true := decide_eq_true hi
      simp only [e0, r1, r2]
      exact ⟨p, q, r, s, fun k => rfl, fun k => rfl⟩
    · obtain ⟨hr, hO⟩ := p3 hi
      obtain ⟨p, q, r, s, r1, r2⟩ := res_v a b c d lv ((i + 2) / 3) (by omega) (by omega) h5
      have e0 : re.cm .eql i 0 = false := decide_eq_false hi
      simp only [e0, hr, r1, r2]
      cases hv2 : v65 p q r s with
      | false =>
        simp only [F142_z hv2, F166_z hv2]
        rcases hO with rfl | rfl | rfl <;> exact ⟨_, _, _, _, fun k => rfl, fun k => rfl⟩
      | true =>
        simp only [F142_v hv2, F166_v hv2]
        rcases hO with rfl | rfl | rfl <;> exact ⟨_, _, _, _, fun k => rfl, fun k => rfl⟩
theorem cv_u {x : Int} (h : 0 ≤ x) (h' : x ≤ 100) : re.cv .u64 x = x := by
  show IntKind.wrap .u64 x = x
  unfold IntKind.wrap
  simp [IntKind.bits, IntKind.signed]
  omega
theorem sh_t {x : Int} (h : 0 ≤ x) : re.sh x = true := decide_eq_true h
theorem grid_v (a b c d x y : Int) (h1 : 0 ≤ x) (h2 : x ≤ 12) (h3 : 0 ≤ y) (h4 : y ≤ 12) : ∃ g : Int, (∀ k : Int → Option Unit, F100_0 re rk 5000 a b c d x y k = k g) ∧ (∀ k : Int → Option Unit, F134_0 re rk 5000 a b c d x y k = k g) := by
  unfold F100_0 G100_0 F134_0 G134_0
  simp only [F104_eq, F106_eq, F107_eq, F56_v, F96_v, F97_v, cv_u h1 (show x ≤ 100 by omega), cv_u h3 (show y ≤ 100 by omega), sh_t h1, sh_t h3]
  cases v66 a b c d with
  | true => exact ⟨_, fun k => rfl, fun k => rfl⟩
  | false => exact ⟨_, fun k => rfl, fun k => rfl⟩
def px (pc : List R) (res : Int) (o : Nat) : Int := if pc.length = 0 then 12 else rk.ci pc res.toNat o
theorem prec_v (kn lv co bx xy : Int) (pc : List R) (od ly : Int) (b1 b2 b3 b4 b5 b6 b7 b8 : Bool) (st : List R) (dd sf : Int) (hp : ∀ x ∈ pc, shOK (.ag shP2) x) (hf : PF lv bx xy pc ly) (res : Int) (h : 0 ≤ res) (h' : res ≤ lv) : (re.mn res 1 ≤ px pc res 0 ∧ px pc res 0 ≤ 12) ∧ (re.mn res 1 ≤ px pc res 1 ∧ px pc res 1 ≤ 12) ∧
    ∀ k : Int → Int → Option Unit, F99_0 re rk 5000 kn lv co bx xy pc od ly b1 b2 b3 b4 b5 b6 b7 b8 st dd sf res k = k (px pc res 0) (px pc res 1) := by
  obtain ⟨j, rfl⟩ : ∃ j : Nat, res = j := ⟨res.toNat, by omega⟩
  obtain ⟨f1, f2, f3, f4, f5, f6, f7, f8, f9⟩ := hf
  have t1 : re.cm .lss (j : Int) 0 = false := by rw [e_lss]; exact decide_eq_false (by omega)
  have t2 : re.cm .gtr (j : Int) lv = false := by rw [e_gtr]; exact decide_eq_false (by omega)
  unfold F99_0 G99_0 px
  simp only [t1, t2]
  rcases f9 with h0 | ⟨h1, h2⟩
  · have t3 : re.cm .eql (re.on (re.len pc)) 0 = true := decide_eq_true (by simp only [e_on, e_len]; omega)
    simp only [t3, h0, if_true]
    have : re.mn (j : Int) 1 ≤ 1 := by
      show (if (1 : Int) < j then (1 : Int) else j) ≤ 1
      split <;> omega
    exact ⟨⟨by omega, by omega⟩, ⟨by omega, by omega⟩, fun k => trivial⟩
  · have t3 : re.cm .eql (re.on (re.len pc)) 0 = false := decide_eq_false (by simp only [e_on, e_len]; omega)
    have t4 : re.cm .geq (j : Int) (re.on (re.len pc)) = false := decide_eq_false (by simp only [e_on, e_len]; omega)
    have hj : j < pc.length := by omega
    have hix : re.ix (j : Int) (re.len pc) = some j := e_ix hj
    have hok : rk.okE shP2 true pc j = true := okE_ag rfl hp hj
    have h3 := h2 j hj
    simp only [t3, t4, hix, hok, if_neg (show ¬ pc.length = 0 by omega), Int.toNat_natCast]
    exact ⟨v77_in h3.1, v77_in h3.2, fun k => trivial⟩
def ex (bx x res : Int) : Int := re.mn bx (re.ar .sub .i64 x (re.mn res 1))
theorem ex_in {bx x res : Int} (h : 0 ≤ res) (h1 : 2 ≤ bx) (h2 : bx ≤ 6) (h3 : re.mn res 1 ≤ x) (h4 : x ≤ 12) : 0 ≤ ex bx x res ∧ ex bx x res ≤ 12 := by
  have h5 : 0 ≤ re.mn res 1 := by
    show 0 ≤ (if (1 : Int) < res then (1 : Int) else res)
    split <;> omega
  unfold ex
  rw [show re.ar .sub .i64 x (re.mn res 1) = x - re.mn res 1 from wrap64 (by omega) (by omega)]
  show 0 ≤ (if x - re.mn res 1 < bx then x - re.mn res 1 else bx) ∧ (if x - re.mn res 1 < bx then x - re.mn res 1 else bx) ≤ 12
  split <;> omega
theorem ex_s {bx x res : Int} (h : 1 ≤ res) : ex bx x res = re.mn bx (re.ar .sub .i64 x 1) := by
  unfold ex
  rw [show re.mn res 1 = 1 by
    show (if (1 : Int) < res then (1 : Int) else res) = 1
    split <;> omega]
theorem ex_0 {bx x : Int} (h : 0 ≤ x) (h' : x ≤ 12) : ex bx x 0 = re.mn bx x := by
  unfold ex
  rw [show re.mn 0 1 = 0 from rfl, show re.ar .sub .i64 x 0 = x by
    show IntKind.wrap .i64 (x - 0) = x
    rw [wrap64 (by omega) (by omega)]; omega]
theorem rescell (a b c d : Int) {lv bx xy ly : Int} {pc : List R} (hf : PF lv bx xy pc ly) (res x y : Int) (h : 0 ≤ res) (h' : res ≤ lv) (h1 : 0 ≤ x) (h2 : x ≤ 12) (h3 : 0 ≤ y) (h4 : y ≤ 12) :
    ∃ p q r s g : Int, (∀ k : Int → Int → Int → Int → Option Unit, F101_0 re rk 5000 a b c d lv res k = k p q r s) ∧ (∀ k : Int → Int → Int → Int → Option Unit, F135_0 re rk 5000 a b c d lv res k = k p q r s) ∧
      (∀ k : Int → Option Unit, F100_0 re rk 5000 p q r s x y k = k g) ∧ (∀ k : Int → Option Unit, F134_0 re rk 5000 p q r s x y k = k g) := by
  obtain ⟨p, q, r, s, e1, e2⟩ := res_v a b c d lv res h h' hf.2.1
  obtain ⟨g, e3, e4⟩ := grid_v p q r s x y h1 h2 h3 h4
  exact ⟨p, q, r, s, g, e1, e2, e3, e4⟩
theorem bandcell (a b c d : Int) {lv bx xy ly : Int} {pc : List R} (hf : PF lv bx xy pc ly) (i x y : Int) (h : 0 ≤ i) (h' : i ≤ 3 * lv) (h1 : 0 ≤ x) (h2 : x ≤ 12) (h3 : 0 ≤ y) (h4 : y ≤ 12) :
    ∃ p q r s g : Int, (∀ k : Int → Int → Int → Int → Option Unit, F102_0 re rk 5000 a b c d lv i k = k p q r s) ∧ (∀ k : Int → Int → Int → Int → Option Unit, F136_0 re rk 5000 a b c d lv i k = k p q r s) ∧
      (∀ k : Int → Option Unit, F100_0 re rk 5000 p q r s x y k = k g) ∧ (∀ k : Int → Option Unit, F134_0 re rk 5000 p q r s x y k = k g) := by
  obtain ⟨p, q, r, s, e1, e2⟩ := band_v a b c d lv i h h' hf.2.1
  obtain ⟨g, e3, e4⟩ := grid_v p q r s x y h1 h2 h3 h4
  exact ⟨p, q, r, s, g, e1, e2, e3, e4⟩
end Go.Proofs.YthlnfebecphcmaaGreat
