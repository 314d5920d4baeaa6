/-
  Numbers and rows of elements.
-/
import Derived.Test.YtdjmknhhdkjklaaGreatK
import Derived.Test.YtdjmknhhdkjklaaGreatSort
import Derived.Test.YtdjmknhhdkjklaaGreatOsG
import Derived.ProofKit
set_option linter.unusedVariables false
set_option maxRecDepth 100000
namespace Go.Proofs.YtdjmknhhdkjklaaGreat
open Go.Os
open Go.ChangeShapes Go.WideShapes Go.ChangeAt Go.RowKit
theorem own : ownKnob Tryz.prog.godebug = none := by kernel_rfl
theorem laidOut : laidOutB Tryz.prog = true := by kernel_rfl
theorem mixed : Tryz.prog.follows .mixedOrders = true := by kernel_rfl
theorem noRoutine : ∀ (f : FuncId) (fn : Func), Tryz.prog.funcs[f]? = some fn → fn.name ≠ "runtime.NumGoroutine" := no_name (by kernel_rfl)
theorem wrap64 {x : Int} (h : -9223372036854775808 ≤ x) (h' : x ≤ 9223372036854775807) : IntKind.wrap .i64 x = x := by
  unfold IntKind.wrap
  simp [IntKind.bits, IntKind.signed]
  omega
theorem e_lss (x y : Int) : re.cm .lss x y = decide (x < y) := rfl
theorem e_leq (x y : Int) : re.cm .leq x y = decide (x ≤ y) := rfl
theorem e_gtr (x y : Int) : re.cm .gtr x y = decide (y < x) := rfl
theorem e_geq (x y : Int) : re.cm .geq x y = decide (y ≤ x) := rfl
theorem e_eql (x y : Int) : re.cm .eql x y = decide (x = y) := rfl
theorem e_neq (x y : Int) : re.cm .neq x y = decide (x ≠ y) := rfl
theorem e_len (l : List R) : re.len l = l.length := rfl
theorem e_on (n : Nat) : re.on n = (n : Int) := rfl
theorem e_bn (x : Bool) : re.bn x = !x := rfl
theorem e_ix {n j : Nat} (h : j < n) : re.ix (j : Int) n = some j := by
  show (if 0 ≤ (j : Int) ∧ (j : Int) < (n : Int) then some (j : Int).toNat else none) = some j
  rw [if_pos (by omega)]; rfl
theorem e_inc {j : Nat} (h : j < 4611686018427387904) : re.ar .add .i64 (j : Int) 1 = ((j + 1 : Nat) : Int) := by
  show IntKind.wrap .i64 ((j : Int) + 1) = _
  rw [wrap64 (by omega) (by omega)]; omega
def noAg : Sh → Bool | .ag _ => false | _ => true
theorem shB_ok {h : Sh} (hn : noAg h = true) {x : R} (hx : shOK h x) : shB h x = true := by
  cases h with
  | b => obtain ⟨v, rfl⟩ := hx; rfl
  | i k => obtain ⟨v, rfl, _⟩ := hx; simp [shB]
  | s => obtain ⟨v, rfl, _⟩ := hx; rfl
  | sl sz e => obtain ⟨l, rfl, _⟩ := hx; simp [shB]
  | ag _ => cases hn
theorem shBs_ok : ∀ {hs : List Sh}, hs.all noAg = true → ∀ {l : List R}, shOKL hs l → shBs hs l = true
  | [], _, l, h => by rw [show l = [] from h]; rfl
  | h :: hs, hn, l, hl => by
    simp only [List.all_cons, Bool.and_eq_true] at hn
    obtain ⟨x, l', rfl, hx, hl⟩ := hl
    simp only [shBs, shB_ok hn.1 hx, shBs_ok hn.2 hl, Bool.and_self]
theorem okE_ag {hs : List Sh} (hn : hs.all noAg = true) {l : List R} (hl : ∀ x ∈ l, shOK (.ag hs) x) {i : Nat} (hi : i < l.length) : rk.okE hs true l i = true := by
  obtain ⟨cs, hx, hc⟩ := hl l[i] (List.getElem_mem hi)
  show (match l[i]? with | some x => _ | none => false) = true
  rw [List.getElem?_eq_getElem hi, hx]
  exact shBs_ok hn hc
theorem okE_1 {h : Sh} (hn : noAg h = true) {l : List R} (hl : ∀ x ∈ l, shOK h x) {i : Nat} (hi : i < l.length) : rk.okE [h] false l i = true := by
  have hx := hl l[i] (List.getElem_mem hi)
  show (match l[i]? with | some x => _ | none => false) = true
  rw [List.getElem?_eq_getElem hi]
  exact shB_ok hn hx
theorem cl_ok {l : List R} {e : Sh} {sz : Nat} (hl : ∀ x ∈ l, shOK (.ag [.i .i64, .i .i64, .i .i64, .i .i64, .sl sz e]) x) {i : Nat} (hi : i < l.length) : ∀ x ∈ rk.cl l i 4, shOK e x := by
  obtain ⟨cs, hx, hc⟩ := hl l[i] (List.getElem_mem hi)
  obtain ⟨_, _, rfl, _, _, _, rfl, _, _, _, rfl, _, _, _, rfl, _, _, _, rfl, ⟨d, rfl, _, hd⟩, rfl⟩ := hc
  have : rk.cl l i 4 = d := by
    show rcl (cellOf l i 4) = d
    unfold cellOf
    rw [List.getElem?_eq_getElem hi, hx]
    rfl
  rw [this]; exact hd
end Go.Proofs.YtdjmknhhdkjklaaGreat
