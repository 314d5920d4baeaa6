/-
  The values of small functions; what rows of elements are.
-/
import Derived.Test.YthlnfebecphcmaaGreatF
import Derived.Test.YthlnfebecphcmaaGreatOsG
import Derived.ProofKit
set_option linter.unusedVariables false
set_option maxRecDepth 100000
namespace Go.Proofs.YthlnfebecphcmaaGreat
open Go.Os
open Go.ChangeShapes Go.WideShapes Go.ChangeAt Go.RowKit
theorem own : ownKnob Tryz.prog.godebug = none := by kernel_rfl
theorem laidOut : laidOutB Tryz.prog = true := by kernel_rfl
theorem mixed : Tryz.prog.follows .mixedOrders = true := by kernel_rfl
theorem noRoutine : ∀ (f : FuncId) (fn : Func), Tryz.prog.funcs[f]? = some fn → fn.name ≠ "runtime.NumGoroutine" := no_name (by kernel_rfl)
theorem wrap64 {x : Int} (h : -9223372036854775808 ≤ x) (h' : x ≤ 9223372036854775807) : IntKind.wrap .i64 x = x := by
  unfold IntKind.wrap
  simp [IntKind.bits, IntKind.signed]
  omega
theorem e_lss (x y : Int) : re.cm .lss x y = decide (x < y) := rfl
theorem e_leq (x y : Int) : re.cm .leq x y = decide (x ≤ y) := rfl
theorem e_gtr (x y : Int) : re.cm .gtr x y = decide (y < x) := rfl
theorem e_geq (x y : Int) : re.cm .geq x y = decide (y ≤ x) := rfl
theorem e_eql (x y : Int) : re.cm .eql x y = decide (x = y) := rfl
theorem e_neq (x y : Int) : re.cm .neq x y = decide (x ≠ y) := rfl
theorem e_len (l : List R) : re.len l = l.length := rfl
theorem e_on (n : Nat) : re.on n = (n : Int) := rfl
theorem e_bn (x : Bool) : re.bn x = !x := rfl
theorem e_ix {n j : Nat} (h : j < n) : re.ix (j : Int) n = some j := by
  show (if 0 ≤ (j : Int) ∧ (j : Int) < (n : Int) then some (j : Int).toNat else none) = some j
  rw [if_pos (by omega)]; rfl
theorem e_inc {j : Nat} (h : j < 4611686018427387904) : re.ar .add .i64 (j : Int) 1 = ((j + 1 : Nat) : Int) := by
  show IntKind.wrap .i64 ((j : Int) + 1) = _
  rw [wrap64 (by omega) (by omega)]; omega
def noAg : Sh → Bool | .ag _ => false | _ => true
theorem shB_ok {h : Sh} (hn : noAg h = true) {x : R} (hx : shOK h x) : shB h x = true := by
  cases h with
  | b => obtain ⟨v, rfl⟩ := hx; rfl
  | i k => obtain ⟨v, rfl, _⟩ := hx; simp [shB]
  | s => obtain ⟨v, rfl, _⟩ := hx; rfl
  | sl sz e => obtain ⟨l, rfl, _⟩ := hx; simp [shB]
  | ag _ => cases hn
theorem shBs_ok : ∀ {hs : List Sh}, hs.all noAg = true → ∀ {l : List R}, shOKL hs l → shBs hs l = true
  | [], _, l, h => by rw [show l = [] from h]; rfl
  | h :: hs, hn, l, hl => by
    simp only [List.all_cons, Bool.and_eq_true] at hn
    obtain ⟨x, l', rfl, hx, hl⟩ := hl
    simp only [shBs, shB_ok hn.1 hx, shBs_ok hn.2 hl, Bool.and_self]
theorem okE_ag {hs : List Sh} (hn : hs.all noAg = true) {l : List R} (hl : ∀ x ∈ l, shOK (.ag hs) x) {i : Nat} (hi : i < l.length) : rk.okE hs true l i = true := by
  obtain ⟨cs, hx, hc⟩ := hl l[i] (List.getElem_mem hi)
  show (match l[i]? with | some x => _ | none => false) = true
  rw [List.getElem?_eq_getElem hi, hx]
  exact shBs_ok hn hc
theorem okE_1 {h : Sh} (hn : noAg h = true) {l : List R} (hl : ∀ x ∈ l, shOK h x) {i : Nat} (hi : i < l.length) : rk.okE [h] false l i = true := by
  have hx := hl l[i] (List.getElem_mem hi)
  show (match l[i]? with | some x => _ | none => false) = true
  rw [List.getElem?_eq_getElem hi]
  exact shB_ok hn hx
theorem cl_ok {l : List R} {e : Sh} {sz : Nat} (hl : ∀ x ∈ l, shOK (.ag [.i .i64, .i .i64, .i .i64, .i .i64, .sl sz e]) x) {i : Nat} (hi : i < l.length) : ∀ x ∈ rk.cl l i 4, shOK e x := by
  obtain ⟨cs, hx, hc⟩ := hl l[i] (List.getElem_mem hi)
  obtain ⟨_, _, rfl, _, _, _, rfl, _, _, _, rfl, _, _, _, rfl, _, _, _, rfl, ⟨d, rfl, _, hd⟩, rfl⟩ := hc
  have : rk.cl l i 4 = d := by
    show rcl (cellOf l i 4) = d
    unfold cellOf
    rw [List.getElem?_eq_getElem hi, hx]
    rfl
  rw [this]; exact hd
theorem F103_eq {β : Type} (N : Nat) : @F103_0 β re rk N = @F55_0 β re rk N := rfl
theorem F104_eq {β : Type} (N : Nat) : @F104_0 β re rk N = @F56_0 β re rk N := rfl
theorem F106_eq {β : Type} (N : Nat) : @F106_0 β re rk N = @F96_0 β re rk N := rfl
theorem F107_eq {β : Type} (N : Nat) : @F107_0 β re rk N = @F97_0 β re rk N := rfl
theorem F105_eq {β : Type} (N : Nat) : @F105_0 β re rk N = @F58_0 β re rk N := rfl
theorem F108_eq {β : Type} (N : Nat) : @F108_0 β re rk N = @F60_0 β re rk N := rfl
def v65 (a b c d : Int) : Bool := re.cm .leq 0 a && (re.cm .leq a c && (re.cm .leq c 4096 && (re.cm .leq 0 b && (re.cm .leq b d && re.cm .leq d 4096))))
theorem F55_v (N : Nat) (a b c d : Int) (k : Bool → Option Unit) : F55_0 re rk N a b c d k = k (v65 a b c d) := by
  unfold F55_0 G55_0 v65
  cases re.cm .leq 0 a <;> cases re.cm .leq a c <;> cases re.cm .leq c 4096 <;> cases re.cm .leq 0 b <;> cases re.cm .leq b d <;> rfl
def v66 (a b c d : Int) : Bool := re.cm .geq a c || re.cm .geq b d
theorem F56_v (N : Nat) (a b c d : Int) (k : Bool → Option Unit) : F56_0 re rk N a b c d k = k (v66 a b c d) := by
  unfold F56_0 G56_0 v66
  cases re.cm .geq a c <;> rfl
def v77 (x l h : Int) : Bool := re.cm .leq l x && re.cm .leq x h
theorem F57_v (N : Nat) (x l h : Int) (k : Bool → Option Unit) : F57_0 re rk N x l h k = k (v77 x l h) := by
  unfold F57_0 G57_0 v77
  cases re.cm .leq l x <;> rfl
theorem nz_lss {m : Int} (h : re.cm .lss m 1 = false) : re.nz m = false := by
  have h : ¬ m < 1 := of_decide_eq_false h
  show decide (m = 0) = false
  exact decide_eq_false (by omega)
def v80 (x m : Int) : Int := match re.cm .lss m 1 with
  | true => 0
  | false => (match re.cm .gtr (re.ar .rem .i64 x m) 0 with
    | true => re.ar .add .i64 (re.ar .quo .i64 x m) 1
    | false => re.ar .quo .i64 x m)
theorem F96_v (N : Nat) (x m : Int) (k : Int → Option Unit) : F96_0 re rk N x m k = k (v80 x m) := by
  unfold F96_0 G96_0 v80
  cases h : re.cm .lss m 1 with
  | true => rfl
  | false =>
    simp only [nz_lss h]
    cases re.cm .gtr (re.ar .rem .i64 x m) 0 <;> rfl
def v105 (x m : Int) : Int := match re.cm .lss m 1 with
  | true => 0
  | false => (match re.cm .lss (re.ar .rem .i64 x m) 0 with
    | true => re.ar .sub .i64 (re.ar .quo .i64 x m) 1
    | false => re.ar .quo .i64 x m)
theorem F97_v (N : Nat) (x m : Int) (k : Int → Option Unit) : F97_0 re rk N x m k = k (v105 x m) := by
  unfold F97_0 G97_0 v105
  cases h : re.cm .lss m 1 with
  | true => rfl
  | false =>
    simp only [nz_lss h]
    cases re.cm .lss (re.ar .rem .i64 x m) 0 <;> rfl
theorem quo_v {x m : Int} (hx : 0 ≤ x) (hx' : x ≤ 4096) (hm : 1 ≤ m) : re.ar .quo .i64 x m = x / m ∧ 0 ≤ x / m ∧ x / m ≤ 4096 := by
  have h1 : 0 ≤ x / m := Int.ediv_nonneg hx (by omega)
  have h2 : x / m ≤ x := Int.ediv_le_self m hx
  refine ⟨?_, h1, by omega⟩
  show IntKind.wrap .i64 (x.tdiv m) = x / m
  rw [Int.tdiv_eq_ediv_of_nonneg hx, wrap64 (by omega) (by omega)]
theorem v80_le {x m : Int} (hx : 0 ≤ x) (hx' : x ≤ 4096) (hm : re.cm .lss m 1 = false) : v80 x m ≤ 4097 := by
  have hm' : ¬ m < 1 := of_decide_eq_false hm
  obtain ⟨h1, h2, h3⟩ := quo_v hx hx' (show 1 ≤ m by omega)
  unfold v80
  rw [hm]
  simp only [h1]
  split
  · show IntKind.wrap .i64 (x / m + 1) ≤ 4097
    rw [wrap64 (by omega) (by omega)]; omega
  · omega
theorem v105_ge {x m : Int} (hx : 0 ≤ x) (hx' : x ≤ 4096) (hm : re.cm .lss m 1 = false) : 0 ≤ v105 x m := by
  have hm' : ¬ m < 1 := of_decide_eq_false hm
  obtain ⟨h1, h2, h3⟩ := quo_v hx hx' (show 1 ≤ m by omega)
  have h4 : re.cm .lss (re.ar .rem .i64 x m) 0 = false := by
    show decide (x.tmod m < 0) = false
    refine decide_eq_false ?_
    rw [Int.tmod_eq_emod_of_nonneg hx]
    have := Int.emod_nonneg x (show m ≠ 0 by omega)
    omega
  unfold v105
  rw [hm, h4]
  simp only [h1]
  omega
theorem F58_v (N : Nat) (a b c d x y : Int) : ∃ p q r s : Int, ∀ k : Int → Int → Int → Int → Option Unit, F58_0 re rk N a b c d x y k = k p q r s := by
  unfold F58_0 G58_0
  simp only [F55_v, F96_v]
  cases re.bn (v65 a b c d) with
  | true => exact ⟨_, _, _, _, fun k => rfl⟩
  | false => cases re.cm .lss x 1 with
    | true => exact ⟨_, _, _, _, fun k => rfl⟩
    | false => cases re.cm .gtr x 4096 with
      | true => exact ⟨_, _, _, _, fun k => rfl⟩
      | false => cases re.cm .lss y 1 with
        | true => exact ⟨_, _, _, _, fun k => rfl⟩
        | false => cases re.cm .gtr y 4096 with
          | true => exact ⟨_, _, _, _, fun k => rfl⟩
          | false => exact ⟨_, _, _, _, fun k => rfl⟩
def v79 (a b c d : Int) : Int := match v65 a b c d with | true => re.ar .mul .i64 (re.ar .sub .i64 c a) (re.ar .sub .i64 d b) | false => 0
theorem F60_v (N : Nat) (a b c d : Int) (k : Int → Option Unit) : F60_0 re rk N a b c d k = k (v79 a b c d) := by
  unfold F60_0 G60_0 v79
  simp only [F55_v, e_bn]
  cases v65 a b c d <;> rfl
theorem F89_a (x l h : Int) (k : Bool → Option Unit) : F89_0 re rk 5000 l h [R.i .i64 x] k = k (v77 x l h) := by
  have h1 : re.cm .lss x l = !(re.cm .leq l x) := by rw [e_lss, e_leq]; by_cases e : x < l <;> simp [e] <;> omega
  have h2 : re.cm .gtr x h = !(re.cm .leq x h) := by rw [e_gtr, e_leq]; by_cases e : h < x <;> simp [e] <;> omega
  have e : F89_0 re rk 5000 l h [R.i .i64 x] k = (match re.cm .lss x l with
    | true => k false
    | false => (match re.cm .gtr x h with
      | true => k false
      | false => k true)) := by kernel_rfl
  rw [e, h1, h2]
  unfold v77
  cases re.cm .leq l x <;> cases re.cm .leq x h <;> rfl
theorem F89_b (x y l h : Int) (k : Bool → Option Unit) : F89_0 re rk 5000 l h [R.i .i64 x, R.i .i64 y] k = k (v77 x l h && v77 y l h) := by
  have h1 : ∀ x, re.cm .lss x l = !(re.cm .leq l x) := fun x => by rw [e_lss, e_leq]; by_cases e : x < l <;> simp [e] <;> omega
  have h2 : ∀ x, re.cm .gtr x h = !(re.cm .leq x h) := fun x => by rw [e_gtr, e_leq]; by_cases e : h < x <;> simp [e] <;> omega
  have e : F89_0 re rk 5000 l h [R.i .i64 x, R.i .i64 y] k = (match re.cm .lss x l with
    | true => k false
    | false => (match re.cm .gtr x h with
      | true => k false
      | false => (match re.cm .lss y l with
        | true => k false
        | false => (match re.cm .gtr y h with
          | true => k false
          | false => k true)))) := by kernel_rfl
  rw [e, h1, h2, h1, h2]
  unfold v77
  cases re.cm .leq l x <;> cases re.cm .leq x h <;> cases re.cm .leq l y <;> cases re.cm .leq y h <;> rfl
end Go.Proofs.YthlnfebecphcmaaGreat
