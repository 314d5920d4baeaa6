/-
  The evaluator of the model's code over pure trees, and its soundness: part G of 8.
-/
import Derived.Test.YthlnfebecphcmaaGreatOsF
import Derived.ProofKit
import Derived.Carry
import Derived.ChangeSame
import Derived.OpenShut
import Derived.WideShapes
import Derived.KernelRfl
set_option linter.unusedVariables false
set_option linter.unusedSimpArgs false
set_option linter.unusedVariables false
namespace Go.Os
open Go.RowKit
inductive Sh where
  | b
  | i (k : IntKind)
  | s
  | sl (sz : Nat) (e : Sh)
  | ag (l : List Sh)
  deriving Inhabited
mutual
def shOK : Sh → R → Prop
  | .b, x => ∃ v, x = .b v
  | .i k, x => ∃ n, x = .i k n ∧ k.min ≤ n ∧ n ≤ k.max
  | .s, x => ∃ v, x = .s v ∧ v.size ≤ maxLen
  | .sl sz e, x => ∃ l, x = .ro sz l ∧ l.length ≤ maxLen ∧ ∀ y ∈ l, shOK e y
  | .ag shs, x => ∃ l, x = .a l ∧ shOKL shs l
  termination_by structural x => x
def shOKL : List Sh → List R → Prop
  | [], l => l = []
  | h :: hs, l => ∃ x l', l = x :: l' ∧ shOK h x ∧ shOKL hs l'
  termination_by structural x => x
end
def shOf (P : Program) (t : TypeId) (l : List Sh) : Sh :=
  match P.underlying t with
  | some (.struct _) => .ag l
  | some (.array ..) => .ag l
  | _ => l.headD .b
def shF (P : Program) (g : TypeId → Option (List Sh)) : Nat → List Field → Option (List Sh)
  | _, [] => some []
  | o, f :: fs => (g f.type).bind fun l => match f.offset == o && l.length == P.cellsOf f.type with
    | true => (shF P g (o + l.length) fs).map fun r => l ++ r
    | false => none
def shC (P : Program) : Nat → TypeId → Option (List Sh)
  | 0, _ => none
  | n + 1, t => match P.underlying t with
    | some .bool => some [.b]
    | some (.int k) => some [.i k]
    | some .string => some [.s]
    | some (.slice e) => (shC P n e).bind fun l => match l.length == P.cellsOf e && decide (0 < P.cellsOf e) with
      | true => some [.sl (P.cellsOf e) (shOf P e l)]
      | false => none
    | some (.struct fs) => (shF P (shC P n) 0 fs.toList).bind fun l => match l.length == P.cellsOf t with
      | true => some l
      | false => none
    | some (.array k e) => (shC P n e).bind fun l => match l.length == P.cellsOf e && k * P.cellsOf e == P.cellsOf t with
      | true => some (List.replicate k l).flatten
      | false => none
    | _ => none
theorem shOKL_len : ∀ {hs : List Sh} {l : List R}, shOKL hs l → l.length = hs.length
  | [], l, h => by rw [show l = [] from h]; rfl
  | h :: hs, l, hh => by
    obtain ⟨x, l', hl, _, h2⟩ := hh
    rw [hl]; simp [shOKL_len h2]
theorem shOKL_app : ∀ {hs hs' : List Sh} {l l' : List R}, shOKL hs l → shOKL hs' l' → shOKL (hs ++ hs') (l ++ l')
  | [], hs', l, l', h, k => by rw [show l = [] from h]; exact k
  | h :: hs, hs', l, l', hh, k => by
    obtain ⟨x, m, hl, h1, h2⟩ := hh
    exact ⟨x, m ++ l', by rw [hl]; rfl, h1, shOKL_app h2 k⟩
section
variable {w : World} {RO : Nat → Prop}
theorem RCL_app : ∀ {l l' : List R} {vs vs' : List Value}, RCL w RO l vs → RCL w RO l' vs' → RCL w RO (l ++ l') (vs ++ vs')
  | [], l', vs, vs', h, k => by rw [show vs = [] from h]; exact k
  | x :: l, l', vs, vs', h, k => by
    obtain ⟨v, us, hv, h1, h2⟩ := h
    exact ⟨v, us ++ vs', by rw [hv]; rfl, h1, RCL_app h2 k⟩
theorem mapM_get {α β : Type} {f : α → Option β} : ∀ {xs : List α} {ys : List β}, xs.mapM f = some ys → ys.length = xs.length ∧ ∀ (i : Nat) (x : α), xs[i]? = some x → ∃ y, f x = some y ∧ ys[i]? = some y
  | [], ys, h => by simp at h; subst h; simp
  | x :: xs, ys, h => by
    rw [List.mapM_cons] at h
    simp only [Option.bind_eq_bind, Option.bind_eq_some_iff, Option.pure_def, Option.some.injEq] at h
    obtain ⟨y, hy, ys', hys, rfl⟩ := h
    obtain ⟨h1, h2⟩ := mapM_get hys
    refine ⟨by simp [h1], fun i z hi => ?_⟩
    cases i with
    | zero => simp at hi; subst hi; exact ⟨y, hy, rfl⟩
    | succ i => simpa using h2 i z (by simpa using hi)
theorem list_of {α : Type} {Pr : Nat → α → Prop} : ∀ n, (∀ i, i < n → ∃ y, Pr i y) → ∃ l : List α, l.length = n ∧ ∀ (i : Nat) (x : α), l[i]? = some x → Pr i x
  | 0, _ => ⟨[], rfl, by simp⟩
  | n + 1, h => by
    obtain ⟨l, h1, h2⟩ := list_of n fun i hi => h i (by omega)
    obtain ⟨y, hy⟩ := h n (by omega)
    refine ⟨l ++ [y], by simp [h1], fun i x hi => ?_⟩
    rcases Nat.lt_or_ge i n with h3 | h3
    · rw [List.getElem?_append_left (by omega)] at hi; exact h2 i x hi
    · rw [List.getElem?_append_right (by omega)] at hi
      have : i - l.length = 0 := by
        have := (List.getElem?_eq_some_iff.1 hi).1
        simp at this; omega
      rw [this] at hi
      simp at hi
      subst hi
      rw [show i = n by omega]; exact hy
theorem RCE_mk {sz g : Nat} : ∀ {l : List R} {off : Nat}, (∀ (i : Nat) (x : R), l[i]? = some x → ∃ vs : List Value, vs.length = sz ∧ (∀ j v, vs[j]? = some v → w.cell? ⟨g, off + i * sz + j, none⟩ = some v) ∧ RC w RO x vs) → RCE w RO sz g off l
  | [], off, _ => trivial
  | x :: l, off, h => by
    obtain ⟨vs, h1, h2, h3⟩ := h 0 x rfl
    refine ⟨⟨vs, h1, fun j v hj => by simpa using h2 j v hj, h3⟩, RCE_mk fun i y hi => ?_⟩
    obtain ⟨us, h4, h5, h6⟩ := h (i + 1) y (by simpa using hi)
    refine ⟨us, h4, fun j v hj => ?_, h6⟩
    have := h5 j v hj
    rwa [show off + (i + 1) * sz + j = off + sz + i * sz + j by rw [Nat.add_mul]; omega] at this
def elR (P : Program) (t : TypeId) (l : List R) : R :=
  match P.underlying t with
  | some (.struct _) => .a l
  | some (.array ..) => .a l
  | _ => l.headD .pn
theorem shC_one {P : Program} {n : Nat} {t : TypeId} {hs : List Sh} (h : shC P n t = some hs) : (∃ d, P.underlying t = some d ∧ aggDesc d = true) ∨ (∃ d x, P.underlying t = some d ∧ aggDesc d = false ∧ hs = [x]) := by
  cases n with
  | zero => simp [shC] at h
  | succ n =>
    unfold shC at h
    cases hu : P.underlying t with
    | none => simp [hu] at h
    | some d =>
      rw [hu] at h
      cases d <;> simp only [] at h
      case struct fs => exact .inl ⟨_, rfl, rfl⟩
      case array k e => exact .inl ⟨_, rfl, rfl⟩
      case slice e =>
        simp only [Option.bind_eq_some_iff] at h
        obtain ⟨l, _, h⟩ := h
        split at h
        · cases h; exact .inr ⟨_, _, rfl, rfl, rfl⟩
        · cases h
      all_goals first
        | (cases h; exact .inr ⟨_, _, rfl, rfl, rfl⟩)
        | cases h
theorem elR_ok {P : Program} {n : Nat} {t : TypeId} {hs : List Sh} (h : shC P n t = some hs) {l : List R} {vs : List Value} (hl : shOKL hs l) (hR : RCL w RO l vs) : RC w RO (elR P t l) vs ∧ shOK (shOf P t hs) (elR P t l) := by
  rcases shC_one h with ⟨d, hu, ha⟩ | ⟨d, x, hu, ha, rfl⟩
  · unfold elR shOf
    rw [hu]
    cases d <;> simp [aggDesc] at ha
    · exact ⟨hR, l, rfl, hl⟩
    · exact ⟨hR, l, rfl, hl⟩
  · obtain ⟨y, l', rfl, h1, h2⟩ := hl
    have : l' = [] := h2
    subst this
    obtain ⟨v, vs', rfl, h3, h4⟩ := hR
    have : vs' = [] := h4
    subst this
    unfold elR shOf
    rw [hu]
    cases d <;> simp [aggDesc] at ha <;> exact ⟨h3, h1⟩
theorem cells_get {n : Nat} {base : Nat} {a : Addr} {vs : List Value} (h : w.cells? base a n = some vs) : vs.length = n ∧ ∀ j v, vs[j]? = some v → w.cell? (a.add j) = some v := by
  unfold World.cells? at h
  split at h
  · obtain ⟨h1, h2⟩ := mapM_get h
    refine ⟨by simpa using h1, fun j v hj => ?_⟩
    have hlt : j < n := by have := (List.getElem?_eq_some_iff.1 hj).1; simp at h1; omega
    obtain ⟨y, h3, h4⟩ := h2 j j (by simp [hlt])
    rw [hj] at h4; cases h4
    exact h3
  · cases h
theorem cell_lt {a : Addr} {v : Value} (h : w.cell? a = some v) : a.block < w.heap.size := by
  unfold World.cell? at h
  split at h
  · rename_i hh
    exact (Array.getElem?_eq_some_iff.1 hh).1
  · cases h
theorem trod_R {H : Type} {enc : TypeId × Value → H} {P : Program} {base : Nat} {spare : Nat → Bool} {held : Bool} (hRO : ∀ g, g < w.heap.size → RO g) : ∀ (fuel : Nat) (t : TypeId) (cs : List Value) (x : DataW H × List MemPlace),
    DataW.trod enc P w base spare held fuel t cs = some x → ∀ (m : Nat) (hs : List Sh), shC P m t = some hs → ∃ l, RCL w RO l cs ∧ shOKL hs l := by
  intro fuel
  induction fuel with
  | zero => intro t cs x h; simp [DataW.trod] at h
  | succ fuel ih =>
    intro t cs x h m hs hm
    cases m with
    | zero => simp [shC] at hm
    | succ m =>
      unfold shC at hm
      cases hu : P.underlying t with
      | none => simp [hu] at hm
      | some d =>
        rw [hu] at hm
        cases d <;> simp only [] at hm
        case bool =>
          cases hm
          obtain ⟨b, rfl, _⟩ := DataW.trod_bool hu h
          exact ⟨[.b b], ⟨_, [], rfl, rfl, rfl⟩, _, [], rfl, ⟨_, rfl⟩, rfl⟩
        case int k =>
          cases hm
          obtain ⟨n, rfl, _, hw⟩ := DataW.trod_int hu h
          simp only [Lit.wf, Bool.and_eq_true, decide_eq_true_eq] at hw
          exact ⟨[.i k n], ⟨_, [], rfl, rfl, rfl⟩, _, [], rfl, ⟨_, rfl, hw.1, hw.2⟩, rfl⟩
        case string =>
          cases hm
          obtain ⟨v, rfl, _, hk⟩ := DataW.trod_string hu h
          exact ⟨[.s v], ⟨_, [], rfl, rfl, rfl⟩, _, [], rfl, ⟨_, rfl, hk⟩, rfl⟩
        case slice e =>
          simp only [Option.bind_eq_some_iff] at hm
          obtain ⟨he, hhe, hm⟩ := hm
          split at hm
          · rename_i hsz
            simp only [Bool.and_eq_true, beq_iff_eq, decide_eq_true_eq] at hsz
            cases hm
            rcases DataW.trod_slice hu h with ⟨rfl, _⟩ | ⟨a, len, cap, elems, rest, n, hn, rfl, _, hb, hlc, hcm, hel, hget, _⟩
            · exact ⟨[.ro _ []], ⟨_, [], rfl, ⟨none, 0, rfl, Nat.le_refl _, .inl rfl⟩, rfl⟩, _, [], rfl, ⟨[], rfl, by simp, by simp⟩, rfl⟩
            · have hn : fuel = n := by omega
              subst hn
              have hex : ∀ i, i < len → ∃ y : R, (∃ vs : List Value, vs.length = P.cellsOf e ∧ (∀ j v, vs[j]? = some v → w.cell? ((a.add (i * P.cellsOf e)).add j) = some v) ∧ RC w RO y vs) ∧ shOK (shOf P e he) y := by
                intro i hi
                have h3 := hget i hi
                rw [List.getElem?_eq_getElem (by omega)] at h3
                simp only [Option.bind_eq_some_iff] at h3
                obtain ⟨vs, hvs, h3⟩ := h3
                obtain ⟨h4, h5⟩ := cells_get hvs
                obtain ⟨l, h6, h7⟩ := ih e vs _ h3 m he hhe
                obtain ⟨h8, h9⟩ := elR_ok hhe h7 h6
                exact ⟨_, ⟨vs, h4, h5, h8⟩, h9⟩
              obtain ⟨l, hl, hP⟩ := list_of len hex
              refine ⟨[.ro (P.cellsOf e) l], ⟨_, [], rfl, ⟨some a, cap, by rw [hl], by omega, ?_⟩, rfl⟩, _, [], rfl, ⟨l, rfl, by omega, fun y hy => ?_⟩, rfl⟩
              · rcases Nat.eq_zero_or_pos len with h0 | h0
                · left; exact List.eq_nil_of_length_eq_zero (by omega)
                · right
                  obtain ⟨⟨vs0, hv1, hv2, _⟩, _⟩ := hP 0 l[0] (List.getElem?_eq_getElem (by omega))
                  have hc0 := hv2 0 vs0[0] (List.getElem?_eq_getElem (by omega))
                  rw [Nat.zero_mul] at hc0
                  have hadd : (a.add 0).add 0 = a := by simp [Addr.add]
                  rw [hadd] at hc0
                  have hspot : a.spot = none := by
                    unfold World.cell? at hc0
                    split at hc0
                    · split at hc0
                      · cases hc0
                      · rename_i hs; simpa using hs
                    · cases hc0
                  obtain ⟨g, off, sp⟩ := a
                  simp only at hspot
                  subst hspot
                  refine ⟨g, off, rfl, hRO g (cell_lt hc0), RCE_mk fun i x hi => ?_⟩
                  obtain ⟨⟨vs, h3, h4, h5⟩, _⟩ := hP i x hi
                  refine ⟨vs, h3, fun j v hj => ?_, h5⟩
                  have := h4 j v hj
                  rwa [Addr.add_lit, Addr.add_lit] at this
              · obtain ⟨i, hi⟩ := List.getElem?_of_mem hy
                exact (hP i y hi).2
          · cases hm
        case struct fs =>
          simp only [Option.bind_eq_some_iff] at hm
          obtain ⟨l0, hl0, hm⟩ := hm
          split at hm
          · rename_i hsz
            have hsz := eq_of_beq hsz
            cases hm
            obtain ⟨xs, n, hn, _, hlen, hxl, hget⟩ := DataW.trod_struct hu h
            have hn : fuel = n := by omega
            subst hn
            have key : ∀ (fl : List Field) (o : Nat) (hs : List Sh), shF P (shC P m) o fl = some hs → (∀ f ∈ fl, ∃ y, DataW.trod enc P w base spare held fuel f.type ((cs.drop f.offset).take (P.cellsOf f.type)) = some y) →
                ∃ l, RCL w RO l ((cs.drop o).take hs.length) ∧ shOKL hs l := by
              intro fl
              induction fl with
              | nil => intro o hs h1 _; simp only [shF, Option.some.injEq] at h1; subst h1; exact ⟨[], by simp [RCL], rfl⟩
              | cons f fl ihf =>
                intro o hs h1 h2
                simp only [shF, Option.bind_eq_some_iff] at h1
                obtain ⟨lf, hlf, h1⟩ := h1
                split at h1
                · rename_i hof
                  simp only [Bool.and_eq_true, beq_iff_eq] at hof
                  simp only [Option.map_eq_some_iff] at h1
                  obtain ⟨r, hr, rfl⟩ := h1
                  obtain ⟨y, hy⟩ := h2 f (by simp)
                  obtain ⟨a1, i1, i2⟩ := ih f.type _ y hy m lf hlf
                  obtain ⟨a2, i3, i4⟩ := ihf (o + lf.length) r hr fun g hg => h2 g (by simp [hg])
                  refine ⟨a1 ++ a2, ?_, shOKL_app i2 i4⟩
                  have e : (cs.drop o).take (lf ++ r).length = (cs.drop f.offset).take (P.cellsOf f.type) ++ (cs.drop (o + lf.length)).take r.length := by
                    rw [List.length_append, List.take_add, hof.1, ← hof.2, List.drop_drop]
                  rw [e]
                  exact RCL_app i1 i3
                · cases h1
            obtain ⟨l, h1, h2⟩ := key fs.toList 0 hs hl0 fun f hf => by
              obtain ⟨i, hi⟩ := List.getElem?_of_mem hf
              have hlt : i < xs.length := by
                rw [hxl]
                have := (List.getElem?_eq_some_iff.1 hi).1
                simpa using this
              have := hget i f (by simpa using hi)
              rw [List.getElem?_eq_getElem hlt] at this
              exact ⟨_, this⟩
            refine ⟨l, ?_, h2⟩
            rw [List.drop_zero, hsz, ← hlen, List.take_length] at h1
            exact h1
          · cases hm
        case array k e =>
          simp only [Option.bind_eq_some_iff] at hm
          obtain ⟨he, hhe, hm⟩ := hm
          split at hm
          · rename_i hsz
            simp only [Bool.and_eq_true, beq_iff_eq] at hsz
            cases hm
            obtain ⟨xs, n, hn, _, hlen, hxl, hget⟩ := DataW.trod_array hu h
            have hn : fuel = n := by omega
            subst hn
            have key : ∀ (n o : Nat), o + n ≤ k → ∃ l, RCL w RO l ((cs.drop (o * P.cellsOf e)).take (n * P.cellsOf e)) ∧ shOKL (List.replicate n he).flatten l := by
              intro n
              induction n with
              | zero => intro o _; exact ⟨[], by simp [RCL], by simp [shOKL]⟩
              | succ n ihn =>
                intro o ho
                have hy := hget o (by omega)
                rw [List.getElem?_eq_getElem (by omega)] at hy
                obtain ⟨a1, i1, i2⟩ := ih e _ _ hy m he hhe
                obtain ⟨a2, i3, i4⟩ := ihn (o + 1) (by omega)
                refine ⟨a1 ++ a2, ?_, by rw [List.replicate_succ, List.flatten_cons]; exact shOKL_app i2 i4⟩
                have e1 : (cs.drop (o * P.cellsOf e)).take ((n + 1) * P.cellsOf e) = (cs.drop (o * P.cellsOf e)).take (P.cellsOf e) ++ (cs.drop ((o + 1) * P.cellsOf e)).take (n * P.cellsOf e) := by
                  rw [show (n + 1) * P.cellsOf e = P.cellsOf e + n * P.cellsOf e by rw [Nat.add_mul]; omega, List.take_add, List.drop_drop, show o * P.cellsOf e + P.cellsOf e = (o + 1) * P.cellsOf e by rw [Nat.add_mul]; omega]
                rw [e1]
                exact RCL_app i1 i3
            obtain ⟨l, h1, h2⟩ := key k 0 (by omega)
            refine ⟨l, ?_, h2⟩
            rw [Nat.zero_mul, List.drop_zero, hsz.2, ← hlen, List.take_length] at h1
            exact h1
          · cases hm
        all_goals cases hm
theorem trod_V {H : Type} {enc : TypeId × Value → H} {P : Program} {base b0 : Nat} {spare : Nat → Bool} {held : Bool} {r : Reach} (hRO : ∀ g, g < w.heap.size → RO g) {t : TypeId} {v : Value} {d : DataW H} {ps : List MemPlace} (hval : Value.okWide P w r b0 t v)
    (h : DataW.Trod enc P w base spare held t v d ps) {m : Nat} {hs : List Sh} (hm : shC P m t = some hs) : ∃ x, RV w RO x v ∧ shOK (shOf P t hs) x := by
  obtain ⟨fuel, h⟩ := h
  obtain ⟨l, h1, h2⟩ := trod_R hRO fuel t _ _ h m hs hm
  cases m with
  | zero => simp [shC] at hm
  | succ m =>
    unfold shC at hm
    cases hu : P.underlying t with
    | none => simp [hu] at hm
    | some d =>
      rw [hu] at hm
      have one : ∀ (sh : Sh) (u : Value), hs = [sh] → v.cells.toList = [u] → ∃ y, RC w RO y [u] ∧ shOK sh y := by
        intro sh u he hc
        subst he
        rw [hc] at h1
        obtain ⟨y, l', rfl, h3, h4⟩ := h2
        have : l' = [] := h4
        subst this
        obtain ⟨u', us, hus, h5, h6⟩ := h1
        simp only [List.cons.injEq] at hus
        rw [← hus.1] at h5
        exact ⟨y, h5, h3⟩
      cases d <;> simp only [] at hm
      case bool =>
        cases hm
        obtain ⟨b, rfl⟩ := WideShapes.okWide_bool hu hval
        obtain ⟨y, h3, b2, rfl⟩ := one .b _ rfl rfl
        exact ⟨.b b2, h3, by unfold shOf; rw [hu]; exact ⟨b2, rfl⟩⟩
      case int k =>
        cases hm
        obtain ⟨n, rfl⟩ := WideShapes.okWide_int hu hval
        obtain ⟨y, h3, n2, rfl, hb⟩ := one (.i k) _ rfl rfl
        exact ⟨.i k n2, h3, by unfold shOf; rw [hu]; exact ⟨n2, rfl, hb⟩⟩
      case string =>
        cases hm
        obtain ⟨n, rfl⟩ := WideShapes.okWide_string hu hval
        obtain ⟨y, h3, n2, rfl, hb⟩ := one .s _ rfl rfl
        exact ⟨.s n2, h3, by unfold shOf; rw [hu]; exact ⟨n2, rfl, hb⟩⟩
      case slice e =>
        simp only [Option.bind_eq_some_iff] at hm
        obtain ⟨he, _, hm⟩ := hm
        split at hm
        · cases hm
          obtain ⟨a, len, cap, rfl⟩ := WideShapes.okWide_slice hu hval
          obtain ⟨y, h3, l2, rfl, hb⟩ := one (.sl _ _) _ rfl rfl
          exact ⟨.ro _ l2, h3, by unfold shOf; rw [hu]; exact ⟨l2, rfl, hb⟩⟩
        · cases hm
      case struct fs =>
        unfold Value.okWide at hval
        rw [hu] at hval
        obtain ⟨cs, rfl, _⟩ := hval
        exact ⟨.a l, ⟨cs, rfl, h1⟩, by unfold shOf; rw [hu]; exact ⟨l, rfl, h2⟩⟩
      case array k e =>
        unfold Value.okWide at hval
        rw [hu] at hval
        obtain ⟨cs, rfl, _⟩ := hval
        exact ⟨.a l, ⟨cs, rfl, h1⟩, by unfold shOf; rw [hu]; exact ⟨l, rfl, h2⟩⟩
      all_goals cases hm
end
end Go.Os
set_option linter.unusedVariables false
namespace Go.Os
open Go.RowKit Go.ChangeShapes Go.WideShapes
section
variable {H : Type} {enc : TypeId × Value → H} {P : Program}
theorem post_of_below {f : Func} {s : ChangeSpec} {apart fresh handsOn again : Bool} {W W' : World} {args : Array Value} {v : Value} {ds gs : List (DataW H)} {before pa pv : List MemPlace}
    (hW : DataW.Whole enc P f.params.toList s.vars apart W args.toList ds gs before)
    (hres : ∀ (b : Nat) (sp : Nat → Bool) (hd : Bool), DataW.TrodAll enc P W' b sp hd f.resultTypes.toList (v.resultList f.resultTypes.size) (s.fn H (ds ++ gs)).results [])
    (hargs : ∀ sp : Nat → Bool, (∀ p ∈ before, sp p.block = true) → DataW.TrodAll enc P W' 0 sp true f.params.toList args.toList (s.fn H (ds ++ gs)).args pa)
    (hvars : ∀ sp : Nat → Bool, (∀ p ∈ before, sp p.block = true) → DataW.TrodVars enc P W' sp s.vars (s.fn H (ds ++ gs)).vars pv)
    (hps : before = pa ++ pv) (hb : Below W.heap.size W W')
    (hok : ∀ (j : Nat) (t : TypeId) (r : Value), f.resultTypes[j]? = some t → (v.resultList f.resultTypes.size)[j]? = some r → Value.okWide P W' .any 0 t r) :
    s.post enc P f apart fresh handsOn again W args v W' := by
  have hlt : ∀ p ∈ before, p.block < W.heap.size := fun p hp => hW.lt p hp
  have hold : ∀ p ∈ before, (fun b => decide (b < W.heap.size)) p.block = true := fun p hp => by simpa using hlt p hp
  refine ⟨ds, gs, before, [], pa, pv, hW, hres _ _ _, hargs _ hold, hvars _ hold, World.keptBut_mono (fun p hp => ⟨hp, ?_⟩) (hb.frame (· ∈ before)), fun _ => ?_⟩
  · rw [hps, List.mem_append] at hp
    exact Or.inr hp
  · obtain ⟨_, _, _, _, _, hz, hn⟩ := hW
    refine ⟨hok, _, _, ([] ++ pa) ++ pv, ⟨[] ++ pa, pv, trodAll_append (hargs _ (fun _ _ => rfl)) (hres _ _ _), hvars _ (fun _ _ => rfl), rfl, ?_, ?_⟩, ?_⟩
    · intro b off hp
      have hin : MemPlace.cell b off ∈ before := by rw [hps]; simpa using hp
      rw [hb.frozen (hlt _ hin)]
      exact hz b off hin
    · intro ha
      have := hn ha
      rw [hps] at this
      simpa using this
    · intro p hp _
      rw [hps]
      simpa using hp
theorem trodAll_stays (hl : laidOutB P = true) {W W' : World} (hb : Below W.heap.size W W') {sp : Nat → Bool} : ∀ (ts : List TypeId) (vs : List Value) (ds : List (DataW H)) (p : List MemPlace),
    (∀ t ∈ ts, P.readableRec t = true ∧ t < P.types.size) → DataW.TrodAll enc P W 0 (fun _ => true) true ts vs ds p → (∀ x ∈ p, x.block < W.heap.size) → (∀ x ∈ p, sp x.block = true) → DataW.TrodAll enc P W' 0 sp true ts vs ds p
  | [], vs, ds, p, _, h, _, _ => by
    cases vs <;> cases ds <;> simp_all [DataW.TrodAll]
  | t :: ts, vs, ds, p, ht, h, hlt, hs => by
    cases vs with
    | nil => simp [DataW.TrodAll] at h
    | cons v vs =>
      cases ds with
      | nil => simp [DataW.TrodAll] at h
      | cons d ds =>
        obtain ⟨p1, p2, h1, h2, rfl⟩ := h
        exact ⟨p1, p2, WideElems.Trod_stays hl (ht t (by simp)).1 (ht t (by simp)).2 h1 (fun x hx => hb.same (hlt x (by simp [hx]))) (fun x hx => hs x (by simp [hx])),
          trodAll_stays hl hb ts vs ds p2 (fun u hu => ht u (by simp [hu])) h2 (fun x hx => hlt x (by simp [hx])) (fun x hx => hs x (by simp [hx])), rfl⟩
def argSh (P : Program) (m : Nat) : List TypeId → Option (List Sh)
  | [] => some []
  | t :: ts => (shC P m t).bind fun hs => (argSh P m ts).map fun r => shOf P t hs :: r
theorem args_R {W : World} {b0 : Nat} {r : Reach} {m : Nat} : ∀ (ts : List TypeId) (vs : List Value) (ds : List (DataW H)) (p : List MemPlace) (shs : List Sh), argSh P m ts = some shs → DataW.TrodAll enc P W 0 (fun _ => true) true ts vs ds p →
    (∀ (j : Nat) (t : TypeId) (v : Value), ts[j]? = some t → vs[j]? = some v → Value.okWide P W r b0 t v) →
    ∃ (xs : List R) (Lc : List Ly), Parts W (fun g => g < W.heap.size) (xs.map T.r) vs Lc ∧ Ly.bsL Lc = [] ∧ shOKL shs xs ∧ ds.length = ts.length
  | [], vs, ds, p, shs, hs, h, _ => by
    simp only [argSh, Option.some.injEq] at hs; subst hs
    cases vs <;> cases ds <;> simp [DataW.TrodAll] at h
    exact ⟨[], [], ⟨rfl, rfl⟩, rfl, rfl, rfl⟩
  | t :: ts, vs, ds, p, shs, hs, h, hok => by
    cases vs with
    | nil => simp [DataW.TrodAll] at h
    | cons v vs =>
      cases ds with
      | nil => simp [DataW.TrodAll] at h
      | cons d ds =>
        obtain ⟨p1, p2, h1, h2, rfl⟩ := h
        simp only [argSh, Option.bind_eq_some_iff, Option.map_eq_some_iff] at hs
        obtain ⟨hs1, hh, rs, hrs, rfl⟩ := hs
        obtain ⟨x, h3, h4⟩ := trod_V (RO := fun g => g < W.heap.size) (fun g hg => hg) (hok 0 t v rfl rfl) h1 hh
        obtain ⟨xs, Lc, h5, h6, h7, h8⟩ := args_R ts vs ds p2 rs hrs h2 fun j u v' hj hv => hok (j + 1) u v' (by simpa using hj) (by simpa using hv)
        exact ⟨x :: xs, .no :: Lc, ⟨v, vs, .no, Lc, rfl, rfl, ⟨h3, .inl rfl⟩, h5⟩, by simp [Ly.bsL, Ly.bs, h6], ⟨x, xs, rfl, h4, h7⟩, by simp [h8]⟩
theorem law_contract (hmix : P.follows .mixedOrders = true) (hng : ∀ (f : FuncId) (fn : Func), P.funcs[f]? = some fn → fn.name ≠ "runtime.NumGoroutine") (hl : laidOutB P = true) (Hn : Hints) {f : FuncId} {fn : Func} {s : ChangeSpec} (hvars : s.vars = [])
    (hspec : ∀ ds : List (DataW H), ds.length = fn.params.toList.length → s.fn H ds = { results := [.lit (.bool true)], args := ds }) {tb : TypeId} (hrt : fn.resultTypes = #[tb]) (htb : P.underlying tb = some .bool)
    (hread : ∀ t ∈ fn.params.toList, P.readableRec t = true ∧ t < P.types.size) {m : Nat} {shs : List Sh} (hsh : argSh P m fn.params.toList = some shs)
    (hp : ∀ xs : List R, shOKL shs xs → ∃ n, runF P re Hn n f (xs.map T.r) = some (.r (.b true), []))
    {apart fresh handsOn again : Bool} {W : World} {base : Nat} {args : Array Value} {ds gs : List (DataW H)} {before : List MemPlace}
    (hval : ∀ (j : Nat) t v, fn.params[j]? = some t → args[j]? = some v → Value.okWide P W .any base t v)
    (hW : DataW.Whole enc P fn.params.toList s.vars apart W args.toList ds gs before) :
    Calls P f args W fun e W' => ∃ v, e = .returned v ∧ s.post enc P fn apart fresh handsOn again W args v W' := by
  have hW' := hW
  obtain ⟨p, q, hA, hV, rfl, hfz, hnd⟩ := hW
  obtain ⟨xs, Lc, h1, h2, h3, h4⟩ := args_R (m := m) _ _ ds p shs hsh hA fun j t v hj hv => hval j t v (by simpa using hj) (by simpa using hv)
  obtain ⟨n, hrun⟩ := hp xs h3
  have hgq : gs = [] ∧ q = [] := by
    rw [hvars] at hV
    cases gs with
    | nil => exact ⟨rfl, hV⟩
    | cons g gs => simp [DataW.TrodVars] at hV
  obtain ⟨rfl, rfl⟩ := hgq
  have hclo : Clo W (fun g => g < W.heap.size) (xs.map T.r) args Lc := h1.clo (by rw [h2]; exact List.nodup_nil) (by rw [h2]; simp) fun g hg => hg
  refine Calls.mono ((runF_ok hmix hng Hn n f _ _ hrun).2 W _ Lc args hclo fun t ht => ?_) fun e W' hpost => ?_
  · simp only [List.mem_map] at ht
    obtain ⟨x, _, rfl⟩ := ht
    rfl
  · obtain ⟨v, RO', Lc', L, rfl, hp⟩ := hpost
    have hv : v = .bool true := by
      have h5 := hp.val.1
      have : RC W' RO' (.b true) [v] := h5
      simpa [RC] using this
    subst hv
    have hbelow : Below W.heap.size W W' := ⟨hp.os, hp.tape, hp.output, hp.size, fun k hk => hp.blk k hk (by rw [h2]; simp)⟩
    have hlt : ∀ x ∈ p, x.block < W.heap.size := fun x hx => hW'.lt x (by simpa using hx)
    have hsp := hspec ds (by rw [h4])
    refine ⟨_, rfl, post_of_below (pa := p) (pv := []) hW' (fun b sp hd => ?_) (fun sp hsp' => ?_) (fun sp _ => ?_) rfl hbelow ?_⟩
    · rw [List.append_nil, hsp, hrt]
      exact trodAll_mk1 (shut_bool htb _)
    · rw [List.append_nil, hsp]
      exact trodAll_stays hl hbelow _ _ _ p hread hA hlt fun x hx => hsp' x (by simp [hx])
    · rw [List.append_nil, hsp, hvars]; exact rfl
    · exact ok_one hrt rfl (okWide_bool_mk htb _)
end
end Go.Os
set_option linter.unusedVariables false
namespace Go.Os
abbrev CallF := FuncId → List T → Option (T × List (List T))
abbrev LpFn := Code → List T → Option (Ex × List T)
def LeC (c c' : CallF) : Prop := ∀ f a r, c f a = some r → c' f a = some r
def LeL (l l' : LpFn) : Prop := ∀ c s r, l c s = some r → l' c s = some r
section
variable {A : Pr} {ti : TypeId → Option TI} {pt : Nat → Option (List Bool × List Bool)}
def mkE (A : Pr) (ti : TypeId → Option TI) (c : CallF) (l : LpFn) (pt : Nat → Option (List Bool × List Bool)) : Env := { A := A, ti := ti, call := c, lp := l, pt := pt }
theorem frz_en {c c' : CallF} {l l' : LpFn} : frz (mkE A ti c l pt) = frz (mkE A ti c' l' pt) := by kernel_rfl
theorem lent_en {c c' : CallF} {l l' : LpFn} : lent (mkE A ti c l pt) = lent (mkE A ti c' l' pt) := by kernel_rfl
theorem lentL_en {c c' : CallF} {l l' : LpFn} : lentL (mkE A ti c l pt) = lentL (mkE A ti c' l' pt) := by kernel_rfl
theorem handArgs_en {c c' : CallF} {l l' : LpFn} : handArgs (mkE A ti c l pt) = handArgs (mkE A ti c' l' pt) := by kernel_rfl
theorem handM_en {c c' : CallF} {l l' : LpFn} : handM (mkE A ti c l pt) = handM (mkE A ti c' l' pt) := by kernel_rfl
theorem freezeAll_en {c c' : CallF} {l l' : LpFn} : freezeAll (mkE A ti c l pt) = freezeAll (mkE A ti c' l' pt) := by kernel_rfl
theorem evAssign_en {c c' : CallF} {l l' : LpFn} : evAssign (mkE A ti c l pt) = evAssign (mkE A ti c' l' pt) := by kernel_rfl
theorem evBuild_en {c c' : CallF} {l l' : LpFn} : evBuild (mkE A ti c l pt) = evBuild (mkE A ti c' l' pt) := by kernel_rfl
theorem evBuildSlice_en {c c' : CallF} {l l' : LpFn} : evBuildSlice (mkE A ti c l pt) = evBuildSlice (mkE A ti c' l' pt) := by kernel_rfl
theorem loadT_en {c c' : CallF} {l l' : LpFn} : loadT (mkE A ti c l pt) = loadT (mkE A ti c' l' pt) := by kernel_rfl
theorem evStore_en {c c' : CallF} {l l' : LpFn} : evStore (mkE A ti c l pt) = evStore (mkE A ti c' l' pt) := by kernel_rfl
theorem binT_en {c c' : CallF} {l l' : LpFn} : binT (mkE A ti c l pt) = binT (mkE A ti c' l' pt) := by kernel_rfl
theorem evUn_en {c c' : CallF} {l l' : LpFn} : evUn (mkE A ti c l pt) = evUn (mkE A ti c' l' pt) := by kernel_rfl
theorem evConv_en {c c' : CallF} {l l' : LpFn} : evConv (mkE A ti c l pt) = evConv (mkE A ti c' l' pt) := by kernel_rfl
theorem evMake_en {c c' : CallF} {l l' : LpFn} : evMake (mkE A ti c l pt) = evMake (mkE A ti c' l' pt) := by kernel_rfl
theorem evSlice_en {c c' : CallF} {l l' : LpFn} : evSlice (mkE A ti c l pt) = evSlice (mkE A ti c' l' pt) := by kernel_rfl
theorem evFieldAddr_en {c c' : CallF} {l l' : LpFn} : evFieldAddr (mkE A ti c l pt) = evFieldAddr (mkE A ti c' l' pt) := by kernel_rfl
theorem evField_en {c c' : CallF} {l l' : LpFn} : evField (mkE A ti c l pt) = evField (mkE A ti c' l' pt) := by kernel_rfl
theorem evIndexAddr_en {c c' : CallF} {l l' : LpFn} : evIndexAddr (mkE A ti c l pt) = evIndexAddr (mkE A ti c' l' pt) := by kernel_rfl
theorem evIndex_en {c c' : CallF} {l l' : LpFn} : evIndex (mkE A ti c l pt) = evIndex (mkE A ti c' l' pt) := by kernel_rfl
theorem evBuiltin_en {c c' : CallF} {l l' : LpFn} : evBuiltin (mkE A ti c l pt) = evBuiltin (mkE A ti c' l' pt) := by kernel_rfl
theorem selfCut_en {c c' : CallF} {l l' : LpFn} : selfCut (mkE A ti c l pt) = selfCut (mkE A ti c' l' pt) := by kernel_rfl
theorem wants_en {c c' : CallF} {l l' : LpFn} : wants (mkE A ti c l pt) = wants (mkE A ti c' l' pt) := by kernel_rfl
theorem outV_en {c c' : CallF} {l l' : LpFn} : outV (mkE A ti c l pt) = outV (mkE A ti c' l' pt) := by kernel_rfl
theorem outP_en {c c' : CallF} {l l' : LpFn} : outP (mkE A ti c l pt) = outP (mkE A ti c' l' pt) := by kernel_rfl
theorem outB_en {c c' : CallF} {l l' : LpFn} : outB (mkE A ti c l pt) = outB (mkE A ti c' l' pt) := by kernel_rfl
theorem outGs_en {c c' : CallF} {l l' : LpFn} : outGs (mkE A ti c l pt) = outGs (mkE A ti c' l' pt) := by kernel_rfl
theorem outG_en {c c' : CallF} {l l' : LpFn} : outG (mkE A ti c l pt) = outG (mkE A ti c' l' pt) := by kernel_rfl
theorem resOf_en {c c' : CallF} {l l' : LpFn} : resOf (mkE A ti c l pt) = resOf (mkE A ti c' l' pt) := by kernel_rfl
theorem doCall_le {c c' : CallF} {l l' : LpFn} (h : LeC c c') {s : List T} {d : Option Nat} {f : FuncId} {args : List T} {e : Eff} (he : doCall (mkE A ti c l pt) s d f args = some e) : doCall (mkE A ti c' l' pt) s d f args = some e := by
  unfold doCall at he ⊢
  rw [handM_en (c := c) (c' := c') (l := l) (l' := l'), handArgs_en (c := c) (c' := c') (l := l) (l' := l'), lentL_en (c := c) (c' := c') (l := l) (l' := l'), freezeAll_en (c := c) (c' := c') (l := l) (l' := l')] at he
  simp only [Option.bind_eq_some_iff] at he ⊢
  obtain ⟨hh, h1, he⟩ := he
  refine ⟨hh, h1, ?_⟩
  split at he
  · cases he
  · rename_i hl
    try rw [hl]
    simp only [Option.bind_eq_some_iff] at he ⊢
    obtain ⟨res, h2, he⟩ := he
    exact ⟨res, h f hh.1 res h2, he⟩
theorem evOp_le {c c' : CallF} {l l' : LpFn} (h : LeC c c') {s : List T} {o : Oper} {e : Eff} (he : evOp (mkE A ti c l pt) s o = some e) : evOp (mkE A ti c' l' pt) s o = some e := by
  unfold evOp at he ⊢
  rw [evAssign_en (c := c) (c' := c') (l := l) (l' := l'), evBuild_en (c := c) (c' := c') (l := l) (l' := l'), evBuildSlice_en (c := c) (c' := c') (l := l) (l' := l'), loadT_en (c := c) (c' := c') (l := l) (l' := l'), evStore_en (c := c) (c' := c') (l := l) (l' := l'), binT_en (c := c) (c' := c') (l := l) (l' := l'), evUn_en (c := c) (c' := c') (l := l) (l' := l'), evConv_en (c := c) (c' := c') (l := l) (l' := l'), evMake_en (c := c) (c' := c') (l := l) (l' := l'), evSlice_en (c := c) (c' := c') (l := l) (l' := l'), evFieldAddr_en (c := c) (c' := c') (l := l) (l' := l'), evField_en (c := c) (c' := c') (l := l) (l' := l'), evIndexAddr_en (c := c) (c' := c') (l := l) (l' := l'), evIndex_en (c := c) (c' := c') (l := l) (l' := l')] at he
  generalize hop : o.op = op at he ⊢
  cases op with
  | call cl =>
    try simp only at he ⊢
    unfold evCall at he ⊢
    rw [evBuiltin_en (c := c) (c' := c') (l := l) (l' := l')] at he
    split at he
    · rename_i g hc
      try simp only [hc]
      split at he
      · rename_i f cap hg
        try simp only [hg]
        split at he
        · rename_i hp
          try simp only [hp]
          split at he
          · rename_i hq
            try simp only [hq]
            exact doCall_le h he
          · rename_i hq
            try simp only [hq]
            exact doCall_le h he
        · cases he
      · cases he
    · rename_i b hc
      try simp only [hc]
      exact he
    · cases he
  | _ => exact he
theorem evR_le {c c' : CallF} {l l' : LpFn} (h : LeC c c') {all : List Oper} : ∀ (ops : List Oper) (s s' : List T), evR (mkE A ti c l pt) all ops s = some s' → evR (mkE A ti c' l' pt) all ops s = some s'
  | [], s, s', he => he
  | o :: ops, s, s', he => by
    simp only [evR, Option.bind_eq_some_iff] at he ⊢
    obtain ⟨b, hb, he⟩ := he
    refine ⟨b, by rw [wants_en (c := c) (c' := c') (l := l) (l' := l')] at hb; exact hb, ?_⟩
    cases b with
    | true =>
      simp only [Option.bind_eq_some_iff] at he ⊢
      obtain ⟨e, h1, he⟩ := he
      exact ⟨e, evOp_le h h1, evR_le h ops e.1 s' he⟩
    | false => exact evR_le h ops _ s' he
theorem evD_le {c c' : CallF} {l l' : LpFn} (h : LeC c c') {all : List Oper} {bf : List Nat} {pw : List (Nat × List Nat)} : ∀ (ops : List Oper) (j : Nat) (ws : List (Nat × List Nat)) (hs : List (List T)) (s s' : List T), evD (mkE A ti c l pt) all bf pw ops j ws hs s = some s' → evD (mkE A ti c' l' pt) all bf pw ops j ws hs s = some s'
  | [], j, ws, hs, s, s', he => he
  | o :: ops, j, ws, hs, s, s', he => by
    unfold evD at he ⊢
    try simp only at he ⊢
    split at he
    · cases he
    · rename_i hchk
      try rw [hchk]
      simp only [Option.bind_eq_some_iff] at he ⊢
      obtain ⟨b, hb, he⟩ := he
      refine ⟨b, by rw [wants_en (c := c) (c' := c') (l := l) (l' := l')] at hb; exact hb, ?_⟩
      cases b with
      | true =>
        simp only [Option.bind_eq_some_iff] at he ⊢
        obtain ⟨e, h1, he⟩ := he
        refine ⟨e, evOp_le h h1, ?_⟩
        split at he
        · rename_i hn
          try rw [hn]
          simp only [Option.bind_eq_some_iff] at he ⊢
          obtain ⟨d, hd, he⟩ := he
          refine ⟨d, hd, ?_⟩
          split at he
          · rename_i hk; (try rw [hk]); exact evD_le h ops _ _ _ _ _ he
          · cases he
        · rename_i hn
          try rw [hn]
          try simp only
          split at he
          · rename_i hk; (try rw [hk]); exact evD_le h ops _ _ _ _ _ he
          · cases he
      | false =>
        try simp only at he ⊢
        split at he
        · split at he
          · rename_i hk; (try rw [hk]); exact evD_le h ops _ _ _ _ _ he
          · cases he
        · exact evD_le h ops _ _ _ _ _ he
theorem evReg_le {c c' : CallF} {l l' : LpFn} (h : LeC c c') {k : Nat} {ops : Array Oper} {d : Bool} {s s' : List T} (he : evReg (mkE A ti c l pt) k ops d s = some s') : evReg (mkE A ti c' l' pt) k ops d s = some s' := by
  have ht : ∀ (ops : List Oper) (s : List T), takeOver (mkE A ti c l pt) s ops = takeOver (mkE A ti c' l' pt) s ops := by
    intro ops
    induction ops with
    | nil => intro s; rfl
    | cons o ops ih =>
      intro s
      unfold takeOver
      split
      · split
        · rename_i s' hs
          have hs2 : (o.dst.bind fun d => (ownerOf (slot s d)).bind fun x => move (mkE A ti c' l' pt).A s x.1 x.2 d) = some s' := hs
          rw [hs2]; exact ih s'
        · rename_i hs
          have hs2 : (o.dst.bind fun d => (ownerOf (slot s d)).bind fun x => move (mkE A ti c' l' pt).A s x.1 x.2 d) = none := hs
          rw [hs2]; exact ih s
      · exact ih s
  unfold evReg at he ⊢
  simp only [Option.map_eq_some_iff] at he ⊢
  obtain ⟨s1, h1, rfl⟩ := he
  refine ⟨s1, ?_, (ht _ _).symm⟩
  cases d with
  | false => exact evR_le h _ _ _ h1
  | true => exact evD_le h _ _ _ _ _ _ h1
theorem ev_le {c c' : CallF} {l l' : LpFn} (h : LeC c c') (hl : LeL l l') : ∀ (code : Code) (s : List T) (r : Ex × List T), ev (mkE A ti c l pt) code s = some r → ev (mkE A ti c' l' pt) code s = some r := by
  intro code
  induction code with
  | region id ops d =>
    intro s r he
    simp only [ev, Option.map_eq_some_iff] at he ⊢
    obtain ⟨s', h1, rfl⟩ := he
    exact ⟨s', evReg_le h h1, rfl⟩
  | seq x y ihx ihy =>
    intro s r he
    simp only [ev, Option.bind_eq_some_iff] at he ⊢
    obtain ⟨r1, h1, he⟩ := he
    refine ⟨r1, ihx s r1 h1, ?_⟩
    obtain ⟨x1, s1⟩ := r1
    cases x1 with
    | nm =>
      have hpt : (mkE A ti c' l' pt).pt = (mkE A ti c l pt).pt := rfl
      simp only [hpt] at he ⊢
      split at he
      · exact ihy _ r he
      · simp only [Option.map_eq_some_iff] at he ⊢
        obtain ⟨z, hz, he⟩ := he
        exact ⟨z, ihy _ z hz, he⟩
    | ex id => exact he
    | rt => exact he
  | cond t x y ihx ihy =>
    intro s r he
    simp only [ev, Option.bind_eq_some_iff] at he ⊢
    obtain ⟨b, h1, he⟩ := he
    refine ⟨b, h1, ?_⟩
    cases b with
    | true => exact ihx s r he
    | false => exact ihy s r he
  | block n x ihx =>
    intro s r he
    simp only [ev, Option.map_eq_some_iff] at he ⊢
    obtain ⟨r1, h1, he⟩ := he
    exact ⟨r1, ihx s r1 h1, he⟩
  | loop x ihx =>
    intro s r he
    exact hl x s r he
  | _ => intro s r he; exact he
theorem resTs_env {c c' : CallF} {l l' : LpFn} {s : List T} : ∀ (x : List ResultVar), resTs (mkE A ti c l pt) s x = resTs (mkE A ti c' l' pt) s x
  | [] => rfl
  | x :: xs => by simp only [resTs, resTs_env (c := c) (c' := c') (l := l) (l' := l') xs]; rw [resOf_en (c := c) (c' := c') (l := l) (l' := l')]
theorem bodyOf_le {c c' : CallF} {l l' : LpFn} (h : LeC c c') (hl : LeL l l') {fn : Func} {args : List T} {r : T × List (List T)} (he : bodyOf (mkE A ti c l pt) fn args = some r) : bodyOf (mkE A ti c' l' pt) fn args = some r := by
  unfold bodyOf at he ⊢
  split at he
  · cases he
  · rename_i code hc
    split at he
    · cases he
    · rename_i hchk
      try rw [hchk]
      simp only [Option.bind_eq_some_iff] at he ⊢
      obtain ⟨r1, h1, he⟩ := he
      refine ⟨r1, ev_le h hl code _ r1 h1, ?_⟩
      split at he
      · cases he
      · rename_i hne
        simp only [resTs_env (A := A) (ti := ti) (c := c') (c' := c) (l := l') (l' := l), outB_en (A := A) (ti := ti) (c := c') (c' := c) (l := l') (l' := l), outGs_en (A := A) (ti := ti) (c := c') (c' := c) (l := l') (l' := l)]
        exact he
end
theorem lpF_le {P : Program} {c c' : CallF} (h : LeC c c') (lv : FH) : ∀ (n m : Nat), n ≤ m → LeL (lpF P re c lv n) (lpF P re c' lv m)
  | 0, m, _ => fun code s r he => by simp [lpF] at he
  | n + 1, m, hnm => fun code s r he => by
    obtain ⟨m', rfl⟩ : ∃ m', m = m' + 1 := ⟨m - 1, by omega⟩
    have ih := lpF_le (P := P) h lv n m' (by omega)
    simp only [lpF, Option.bind_eq_some_iff] at he ⊢
    obtain ⟨r1, h1, he⟩ := he
    refine ⟨r1, ev_le (A := re) (ti := tiOf P) h ih code _ r1 h1, ?_⟩
    obtain ⟨x1, s1⟩ := r1
    cases x1 with
    | nm => exact ih code s1 r he
    | ex id => exact he
    | rt => exact he
theorem runF_le {P : Program} {H : Hints} : ∀ (n m : Nat), n ≤ m → LeC (runF P re H n) (runF P re H m)
  | 0, m, _ => fun f a r he => by simp [runF] at he
  | n + 1, m, hnm => fun f a r he => by
    obtain ⟨m', rfl⟩ : ∃ m', m = m' + 1 := ⟨m - 1, by omega⟩
    have ih := runF_le (P := P) (H := H) n m' (by omega)
    simp only [runF, Option.bind_eq_some_iff] at he ⊢
    obtain ⟨fn, hfn, he⟩ := he
    exact ⟨fn, hfn, bodyOf_le (A := re) (ti := tiOf P) ih (lpF_le ih (H f) n m' (by omega)) he⟩
end Go.Os
set_option linter.unusedVariables false
namespace Go.Os
structure Pk where
  okE : List Sh → Bool → List R → Nat → Bool
  okC : List Sh → List R → Nat → Nat → Bool
  ci : List R → Nat → Nat → Int
  cb : List R → Nat → Nat → Bool
  cs : List R → Nat → Nat → ByteArray
  cl : List R → Nat → Nat → List R
  upd : List R → Nat → Nat → R → List R
def shB : Sh → R → Bool
  | .b, x => (match x with | .b _ => true | _ => false)
  | .i k, x => (match x with | .i k' _ => decide (k' = k) | _ => false)
  | .s, x => (match x with | .s _ => true | _ => false)
  | .sl sz _, x => (match x with | .ro z _ => z == sz | _ => false)
  | .ag _, _ => false
def shBs : List Sh → List R → Bool
  | [], l => (match l with | [] => true | _ => false)
  | h :: hs, l => (match l with | x :: l' => shB h x && shBs hs l' | [] => false)
def shPs : List Sh → List R → Bool
  | [], _ => true
  | h :: hs, l => (match l with | x :: l' => shB h x && shPs hs l' | [] => false)
def rci (x : R) : Int := match x with | .i _ n => n | _ => 0
def rcb (x : R) : Bool := match x with | .b v => v | _ => false
def rcs (x : R) : ByteArray := match x with | .s v => v | _ => ByteArray.empty
def rcl (x : R) : List R := match x with | .ro _ l => l | _ => []
def cellOf (l : List R) (i o : Nat) : R := match l[i]? with | some x => (match x.cells[o]? with | some c => c | none => .pn) | none => .pn
def rk : Pk where
  okE := fun hs agg l i => match l[i]? with
    | some x => (match agg with
      | true => (match x with | .a cs => shBs hs cs | _ => false)
      | false => (match hs with | [h] => shB h x | _ => false))
    | none => false
  okC := fun hs l i o => match l[i]? with | some x => shPs hs (x.cells.drop o) | none => false
  ci := fun l i o => rci (cellOf l i o)
  cb := fun l i o => rcb (cellOf l i o)
  cs := fun l i o => rcs (cellOf l i o)
  cl := fun l i o => rcl (cellOf l i o)
  upd := fun l i o c => match l[i]? with | some x => l.set i (x.setCell o c) | none => l
def leaf (B : Pk) (l : List R) (i o : Nat) : Sh → R
  | .b => .b (B.cb l i o)
  | .i k => .i k (B.ci l i o)
  | .s => .s (B.cs l i o)
  | .sl sz _ => .ro sz (B.cl l i o)
  | .ag _ => .pn
def leaves (B : Pk) (l : List R) (i : Nat) : Nat → List Sh → List R
  | _, [] => []
  | o, h :: hs => leaf B l i o h :: leaves B l i (o + 1) hs
def elT (B : Pk) (hs : List Sh) (agg : Bool) (l : List R) (i : Nat) : R :=
  match agg with
  | true => .a (leaves B l i 0 hs)
  | false => (match hs with | h :: _ => leaf B l i 0 h | [] => .pn)
structure Ek (β : Type) where
  A : Pr
  B : Pk
  ti : TypeId → Option TI
  sh : TypeId → Option (List Sh)
  call : FuncId → List T → (T → List (List T) → Option β) → Option β
  lp : Nat → List T → (Ex → List T → Option β) → Option β
  pt : Nat → Option (List Bool × List Bool)
  jn : Nat → List T → (Ex → List T → Option β) → Option β
section
variable {β : Type} (E : Ek β)
def Ek.base : Env := mkE E.A E.ti (fun _ _ => none) (fun _ _ => none) E.pt
def boolK (t : T) (k : Bool → Option β) : Option β :=
  match t with
  | .r x => (match x with
    | .b v => (match v with | true => k true | false => k false)
    | _ => none)
  | _ => none
def setO (s : List T) (o : Operand) (b : Bool) : List T := match o with | .tmp t => s.set t (.r (.b b)) | _ => s
def tstO (s : List T) (o : Operand) : T := match o with | .tmp t => slot s t | o => opd s o
def boolSK (s : List T) (o : Operand) (k : Bool → List T → Option β) : Option β :=
  match tstO s o with
  | .r x => (match x with
    | .b v => (match v with | true => k true (setO s o true) | false => k false (setO s o false))
    | _ => none)
  | _ => none
def ixK (n : Int) (len : Nat) (k : Nat → Option β) : Option β := match E.A.ix n len with | some i => k i | none => none
def arrK (n : Int) : Nat → Nat → (Nat → Option β) → Option β
  | 0, _, _ => none
  | m + 1, j, k => match E.A.cm .eql n (j : Int) with
    | true => k j
    | false => arrK n m (j + 1) k
def arrCK (c : Bool) (n : Int) (m : Nat) (k : Nat → Option β) : Option β :=
  match c with
  | true => (match decide (0 ≤ n ∧ n < (m : Int)) with | true => k n.toNat | false => none)
  | false => arrK E n m 0 k
def isC : Operand → Bool | .const _ => true | _ => false
def elK (e : TypeId) (l : List R) (i : Nat) (k : R → Option β) : Option β :=
  match E.sh e with
  | some hs => (match E.ti e with
    | some te => (match E.B.okE hs te.agg l i with
      | true => k (elT E.B hs te.agg l i)
      | false => none)
    | none => none)
  | none => none
def indexAddrK (c : Bool) (s : List T) (t : TypeId) (x i : T) (k : T → Option β) : Option β :=
  match intT i with
  | none => none
  | some n => match E.ti t with
    | none => none
    | some ty => match ty.elem? with
      | some e => (match E.ti e with
        | none => none
        | some te => (match szOf x te.sz with
          | false => none
          | true => (match x with
            | .r y => (match y with
              | .ro _ l => ixK E n.2 (E.A.len l) fun i => elK E e l i fun z => k (.cp z.cells 0)
              | _ => none)
            | .v r q sz w => (match lenT E.base s (.v r q sz w) with
              | none => none
              | some m => ixK E n.2 m fun i => k (match w with
                | none => .p r (q ++ [.e i sz 0])
                | some (o, _) => .p r (q ++ [.e (addOff E.A o i) sz 0])))
            | _ => none)))
      | none => (match ty.arr? with
        | none => none
        | some a => (match E.ti a.2 with
          | none => none
          | some te => arrCK E c n.2 a.1 fun j => (match x with
            | .p r q => k (.p r (stepBy q (j * te.sz)))
            | .cp l o => k (.cp l (o + j * te.sz))
            | _ => none)))
def indexK (c : Bool) (t : TypeId) (x i : T) (k : T → Option β) : Option β :=
  match intT i with
  | none => none
  | some n => match E.ti t with
    | none => none
    | some ty => (match ty.arr? with
        | none => none
        | some a => (match E.ti a.2 with
          | none => none
          | some te => arrCK E c n.2 a.1 fun j => (match x.aggC? with
            | none => none
            | some cs => (match partT te cs (j * te.sz) with
              | some c => k c
              | none => none))))
def sxK (n : Int) (len : Nat) (k : Nat → Option β) : Option β := match E.A.sx n len with | some i => k i | none => none
def boundK (s : List T) (y : Option Operand) (n dflt : Nat) (k : Nat → Option β) : Option β :=
  match y with
  | none => k dflt
  | some y => (match intT (opd s y) with
    | some v => sxK E v.2 n k
    | none => none)
def sliceK (s : List T) (t : TypeId) (x : T) (lo hi mx : Option Operand) (k : T → Option β) : Option β :=
  match slEl E.base t with
  | none => none
  | some te => match szOf x te.sz with
    | false => none
    | true => (match lenT E.base s x with
      | none => none
      | some n => boundK E s mx n n fun m => boundK E s hi m n fun h => boundK E s lo h 0 fun l =>
        match lo, hi, mx with
        | none, none, none => k x
        | _, none, some _ => none
        | _, _, _ => (match cutT E.base x l (E.A.sub h l) with | some c => k c | none => none))
def splitE : Pth → Option (Pth × Nat × Nat × Nat)
  | [] => none
  | [.e i sz o] => some ([], i, sz, o)
  | x :: q => (splitE q).map fun y => (x :: y.1, y.2)
def cellsK (t : TypeId) (ty : TI) (l : List R) (i o : Nat) (k : T → Option β) : Option β :=
  match E.sh t with
  | none => none
  | some hs => match hs.length == ty.sz with
    | false => none
    | true => match E.B.okC hs l i o with
      | false => none
      | true => (match ty.agg with
        | true => k (.r (.a (leaves E.B l i o hs)))
        | false => (match hs with
          | [h] => k (.r (leaf E.B l i o h))
          | _ => none))
def thenK {α : Type} (x : Option α) (k : α → Option β) : Option β := match x with | some y => k y | none => none
def loadK (s : List T) (t : TypeId) (x : T) (k : T → Option β) : Option β :=
  match E.ti t with
  | none => none
  | some ty => match x with
    | .p r q => (match splitE q with
      | some y => (match getP E.A s r y.1 with
        | some (.own _ z l) => (match z == y.2.2.1 with | true => cellsK E t ty l y.2.1 y.2.2.2 k | false => none)
        | some (.r (.ro z l)) => (match z == y.2.2.1 with | true => cellsK E t ty l y.2.1 y.2.2.2 k | false => none)
        | _ => thenK (loadT E.base s ty (.p r q)) k)
      | none => thenK (loadT E.base s ty (.p r q)) k)
    | x => thenK (loadT E.base s ty x) k
def isRoNil (x y : T) : Option (List R) := match x with
  | .r a => (match a with
    | .ro _ l => (match y with
      | .r b => (match b with | .sn => some l | _ => none)
      | _ => none)
    | _ => none)
  | _ => none
def nilK (s : List T) (o : Oper) (op : BinOp) (t : TypeId) (x y : T) (k : Eff → Option β) : Option β :=
  match isRoNil x y with
  | some l => (match E.A.nz (E.A.on (E.A.len l)) with
    | true => none
    | false => thenK ((nilOp E.base op t false).map fun q => putD s o.dst (.r q)) k)
  | none => thenK (evOp E.base s o) k
def binK (s : List T) (o : Oper) (op : BinOp) (t : TypeId) (x y : T) (k : Eff → Option β) : Option β :=
  match op with
  | .eql => nilK E s o .eql t x y k
  | .neq => nilK E s o .neq t x y k
  | .shl => (match intT x, intT y with
    | some a, some b => (match E.A.sh b.2 with | true => k (putD s o.dst (.r (.i a.1 (E.A.ar .shl a.1 a.2 b.2)))) | false => none)
    | _, _ => none)
  | .shr => (match intT x, intT y with
    | some a, some b => (match E.A.sh b.2 with | true => k (putD s o.dst (.r (.i a.1 (E.A.ar .shr a.1 a.2 b.2)))) | false => none)
    | _, _ => none)
  | .quo => (match intT x, intT y with
    | some a, some b => (match decide (a.1 = b.1) with
      | true => (match E.A.nz b.2 with | true => none | false => k (putD s o.dst (.r (.i a.1 (E.A.ar .quo a.1 a.2 b.2)))))
      | false => none)
    | _, _ => none)
  | .rem => (match intT x, intT y with
    | some a, some b => (match decide (a.1 = b.1) with
      | true => (match E.A.nz b.2 with | true => none | false => k (putD s o.dst (.r (.i a.1 (E.A.ar .rem a.1 a.2 b.2)))))
      | false => none)
    | _, _ => none)
  | _ => thenK (evOp E.base s o) k
def doCallK (s : List T) (d : Option Nat) (f : FuncId) (args : List T) (k : Eff → Option β) : Option β :=
  match handArgs E.base s (handM E.base f) args with
  | none => none
  | some h => match (lentL E.base s (stayA (handM E.base f) args)).all fun p => !h.2.contains p.1 with
    | false => none
    | true => E.call f h.1 fun res bs =>
      match (match fresh res && freshLL bs with | true => some (s, []) | false => freezeAll E.base s [] (lentL E.base s (stayA (handM E.base f) args))) with
      | none => none
      | some f => (match backBoxes f.1 h.1 h.2 bs with
        | none => none
        | some s1 => let e := putD s1 d res
          k (e.1, f.2 ++ (h.2 ++ (match boxRs h.1 h.2 with | [] => [] | r0 :: rb => allHits (r0 :: rb) 0 f.1)) ++ e.2))
def appendK (s : List T) (d : Option Nat) (t t2 : TypeId) (x y : Operand) (k : Eff → Option β) : Option β :=
  match frozen E.base s (opd s y) with
  | none => none
  | some f => match t == t2 with
    | false => none
    | true => match slEl E.base t with
      | none => none
      | some te => match zeroEl te with
        | none => none
        | some _ => match elems E.base f.1 (opd f.1 y) with
          | none => none
          | some ys => match szOf (opd f.1 y) te.sz with
            | false => none
            | true => match opd f.1 x with
              | .r z => (match z with
                | .sn => (match te.sz == 0 with
                  | true => none
                  | false => (match E.A.small (E.A.len ys) te.bytes with
                    | true => let e := putD f.1 d (.own te.flat te.sz ys)
                      k (e.1, f.2 ++ e.2)
                    | false => none))
                | _ => none)
              | .v r q sz w => (match w with
                | some _ => none
                | none => (match getP E.A f.1 r q with
                  | some (.own fl z l) => (match z == te.sz && sz == te.sz with
                    | false => none
                    | true => (match E.A.small (E.A.len (E.A.app l ys)) te.bytes with
                      | false => none
                      | true => (match setP E.A (killAll r q f.1) r q .u with
                        | none => none
                        | some s1 => let e := putD s1 d (.own fl z (E.A.app l ys))
                          k (e.1, f.2 ++ (r :: (hits r q f.1 ++ e.2))))))
                  | _ => none))
              | _ => none
def makeK (s : List T) (t : TypeId) (n c : T) (k : T → Option β) : Option β :=
  match slEl E.base t, intT n, intT c with
  | some te, some y, some yc => (match zeroEl te with
    | none => none
    | some z => (match E.A.mkn yc.2 te.bytes with
      | none => none
      | some mc => sxK E y.2 mc fun m => (match te.sz with
        | 0 => none
        | _ => k (.own te.flat te.sz (E.A.rep m z)))))
  | _, _, _ => none
def builtinK (s : List T) (o : Oper) (b : Builtin) (tys : List TypeId) (args : List Operand) (k : Eff → Option β) : Option β :=
  match b with
  | .append => (match tys, args with | [t, t2], [x, y] => appendK E s o.dst t t2 x y k | _, _ => none)
  | _ => thenK (evOp E.base s o) k
def callK (s : List T) (o : Oper) (c : Call) (k : Eff → Option β) : Option β :=
  match c.callee with
  | .value g => (match opd s g with
    | .f f cap => (match cap.all isP && decide (f < mvK) with | true => doCallK E s o.dst f (c.args.toList.map (opd s) ++ cap) k | false => none)
    | _ => none)
  | .builtin b => builtinK E s o b c.argTypes.toList c.args.toList k
  | _ => none
def plainSh : Sh → Bool
  | .i _ => true
  | .b => true
  | _ => false
def store1K (s : List T) (o : Oper) (t : TypeId) (x y : T) (k : Eff → Option β) : Option β :=
  match x with
  | .p r q => (match q with
    | [st] => (match st with
      | .e i z c => (match slot s r with
        | .own fl z' l => (match o.dst with
          | none => (match z' == z with
            | true => (match E.ti t with
              | none => none
              | some ty => (match E.sh t with
                | some [h] => (match plainSh h && ty.sz == 1 with
                  | true => (match y with
                    | .r v => (match v.one with
                      | true => (match E.B.okC [h] l i c with
                        | true => k (s.set r (.own fl z (E.B.upd l i c v)), [r])
                        | false => none)
                      | false => none)
                    | _ => none)
                  | false => thenK (evOp E.base s o) k)
                | some hs => (match hs.all plainSh && ty.agg && (ty.sz == hs.length) && (c == 0) with
                  | true => (match y with
                    | .r v => (match v with
                      | .a cs => (match cs.all R.one && (cs.length == hs.length) with
                        | true => (match E.B.okE hs true l i with
                          | true => k (s.set r (.own fl z (E.A.set l i (.a cs))), List.replicate cs.length r)
                          | false => none)
                        | false => none)
                      | _ => none)
                    | _ => none)
                  | false => thenK (evOp E.base s o) k)
                | none => thenK (evOp E.base s o) k))
            | false => none)
          | some _ => none)
        | _ => thenK (evOp E.base s o) k)
      | _ => thenK (evOp E.base s o) k)
    | _ => thenK (evOp E.base s o) k)
  | _ => thenK (evOp E.base s o) k
def convK (s : List T) (t1 t2 : TypeId) (x : T) (k : R → Option β) : Option β :=
  match E.base.ti t1, E.base.ti t2 with
  | some ta, some ty => (match ty.int? with
    | some kk => (match intT x with | some y => k (.i kk (E.A.cv kk y.2)) | none => none)
    | none => (match ty.isStr && isBytes E.base ta with
      | true => (match elems E.base s x with
        | some l => (match szOf x 1 with
          | true => (match E.A.okb l with | true => k (.s (E.A.bs l)) | false => none)
          | false => none)
        | none => none)
      | false => none))
  | _, _ => none
def opK (s : List T) (o : Oper) (k : Eff → Option β) : Option β :=
  match o.op with
  | .pick c a b => boolSK s c fun x s => match x with | true => k (putD s o.dst (opd s a)) | false => k (putD s o.dst (opd s b))
  | .binOp op t x y _ => binK E s o op t (opd s x) (opd s y) k
  | .indexAddr t x i => indexAddrK E (isC i) s t (opd s x) (opd s i) fun c => k (putD s o.dst c)
  | .index t x i => indexK E (isC i) t (opd s x) (opd s i) fun c => k (putD s o.dst c)
  | .slice t x lo hi mx => sliceK E s t (opd s x) lo hi mx fun c => k (putD s o.dst c)
  | .load t x => loadK E s t (opd s x) fun c => k (putD s o.dst c)
  | .store t x y => store1K E s o t (opd s x) (opd s y) k
  | .makeSlice t l c => makeK E s t (opd s l) (opd s c) fun c => k (putD s o.dst c)
  | .convert t1 t2 x => convK E s t1 t2 (opd s x) fun c => k (putD s o.dst (.r c))
  | .call c => callK E s o c k
  | _ => thenK (evOp E.base s o) k
mutual
def fcR {α : Type} : R → (R → α) → α
  | .b x, k => k (.b x)
  | .i d n, k => k (.i d n)
  | .s x, k => k (.s x)
  | .pn, k => k .pn
  | .sn, k => k .sn
  | .fn, k => k .fn
  | .a l, k => fcRs l fun l' => k (.a l')
  | .ro z l, k => k (.ro z l)
  termination_by structural x => x
def fcRs {α : Type} : List R → (List R → α) → α
  | [], k => k []
  | x :: l, k => fcR x fun x' => fcRs l fun l' => k (x' :: l')
  termination_by structural x => x
end
mutual
def fcT {α : Type} : T → (T → α) → α
  | .u, k => k .u
  | .r x, k => fcR x fun x' => k (.r x')
  | .own f z l, k => k (.own f z l)
  | .ow z l, k => fcTs l fun l' => k (.ow z l')
  | .bx l, k => fcTs l fun l' => k (.bx l')
  | .p r q, k => k (.p r q)
  | .v r q z w, k => k (.v r q z w)
  | .cp l o, k => fcRs l fun l' => k (.cp l' o)
  | .f g l, k => fcTs l fun l' => k (.f g l')
  | .a l, k => fcTs l fun l' => k (.a l')
  | .tp b l, k => fcTs l fun l' => k (.tp b l')
  termination_by structural x => x
def fcTs {α : Type} : List T → (List T → α) → α
  | [], k => k []
  | x :: l, k => fcT x fun x' => fcTs l fun l' => k (x' :: l')
  termination_by structural x => x
end
mutual
theorem fcR_id {α : Type} : ∀ (x : R) (k : R → α), fcR x k = k x
  | .b _, _ => by simp only [fcR]
  | .i _ _, _ => by simp only [fcR]
  | .s _, _ => by simp only [fcR]
  | .pn, _ => by simp only [fcR]
  | .sn, _ => by simp only [fcR]
  | .fn, _ => by simp only [fcR]
  | .a l, k => by simp only [fcR]; exact fcRs_id l _
  | .ro _ _, _ => by simp only [fcR]
theorem fcRs_id {α : Type} : ∀ (x : List R) (k : List R → α), fcRs x k = k x
  | [], _ => by simp only [fcRs]
  | x :: l, k => by simp only [fcRs]; rw [fcR_id x, fcRs_id l]
end
mutual
theorem fcT_id {α : Type} : ∀ (x : T) (k : T → α), fcT x k = k x
  | .u, _ => by simp only [fcT]
  | .r x, k => by simp only [fcT]; exact fcR_id x _
  | .own _ _ _, _ => by simp only [fcT]
  | .ow _ l, k => by simp only [fcT]; exact fcTs_id l _
  | .bx l, k => by simp only [fcT]; exact fcTs_id l _
  | .p _ _, _ => by simp only [fcT]
  | .v _ _ _ _, _ => by simp only [fcT]
  | .cp l _, k => by simp only [fcT]; exact fcRs_id l _
  | .f _ l, k => by simp only [fcT]; exact fcTs_id l _
  | .a l, k => by simp only [fcT]; exact fcTs_id l _
  | .tp _ l, k => by simp only [fcT]; exact fcTs_id l _
theorem fcTs_id {α : Type} : ∀ (x : List T) (k : List T → α), fcTs x k = k x
  | [], _ => by simp only [fcTs]
  | x :: l, k => by simp only [fcTs]; rw [fcT_id x, fcTs_id l]
end
def wantsK (all : List Oper) (s : List T) (o : Oper) (k : Bool → List T → Option β) : Option β :=
  match o.guard with
  | none => k true s
  | some g => match (all[g.1]?).bind (·.dst) with
    | none => none
    | some t => match slot s t with
      | .tp true [] => k false s
      | _ => boolSK s (.tmp t) fun x s => match g.2 with
        | true => k x s
        | false => (match x with | true => k false s | false => k true s)
def regK (all : List Oper) : List Oper → List T → (List T → Option β) → Option β
  | [], s, k => k s
  | o :: l, s, k => wantsK all s o fun b s => match b with
    | true => opK E s o fun e => fcTs e.1 fun s1 => regK all l s1 k
    | false => fcTs (putD s o.dst (.tp true [])).1 fun s1 => regK all l s1 k
def setG (all : List Oper) (o : Oper) (s s0 : List T) : List T :=
  match o.guard with
  | none => s
  | some g => match (all[g.1]?).bind (·.dst) with
    | none => s
    | some t => match slot s0 t with
      | .r x => (match x with
        | .b v => s.set t (.r (.b v))
        | _ => s)
      | _ => s
def drawK (all : List Oper) (bf : List Nat) (pw : List (Nat × List Nat)) : List Oper → Nat → List (Nat × List Nat) → List (List T) → List T → (List T → Option β) → Option β
  | [], _, _, _, s, k => k s
  | o :: l, j, ws, hs, s, k =>
    let lost := ws.filter fun x => !ord bf x.1 j
    let m1 := dsts bf all j ++ (lost.flatMap (·.2) ++ laterW bf pw j)
    let m2 := m1 ++ refs m1 0 s
    let m := m2 ++ refs m2 0 s
    fcTs (keepL (fun x => !m.contains x) 0 s) fun s0 =>
    match decide (bf.getD j 0 < 2 ^ j) && (refs m 0 s).all fun x => m.contains x with
    | false => none
    | true => wantsK all s0 o fun b s0 =>
      fcTs (setG all o s s0) fun s =>
      match b with
      | true => opK E s0 o fun e =>
        match narrow o e s with
        | true => (match o.dst with
          | none => none
          | some d => (match !(lost.any fun x => rootsIn x.2 (slot e.1 d)) && !m.contains d with
            | true => fcTs (s.set d (slot e.1 d)) fun s1 => drawK all bf pw l (j + 1) ws (s :: hs) s1 k
            | false => none))
        | false => (match wideB bf pw j lost hs m e && !(e.2.any (m.contains ·)) && !(m.any fun x => rootsIn e.2 (slot s x)) && !(o.dst.any (m.contains ·)) with
            | true => fcTs (mixL e.2 0 e.1 s) fun s1 => drawK all bf pw l (j + 1) ((j, e.2) :: ws) (s :: hs) s1 k
            | false => none)
      | false => (match o.dst with
        | some d => (match owner (slot s d) || m.contains d with
          | false => fcTs (s.set d (.tp true [])) fun s1 => drawK all bf pw l (j + 1) ws (s :: hs) s1 k
          | true => none)
        | none => drawK all bf pw l (j + 1) ws (s :: hs) s k)
def regionK (id : Nat) (ops : Array Oper) (draw : Bool) (s : List T) (k : List T → Option β) : Option β :=
  match draw with
  | false => regK E ops.toList ops.toList s fun s' => fcTs (takeOver E.base s' ops.toList) k
  | true => (match pwOf E.pt id ops.size with
    | [] => drawK E ops.toList (CheckFast.beforeL ops.toList 0 []) [] ops.toList 0 [] [] s fun s' => fcTs (takeOver E.base s' ops.toList) k
    | x :: l => drawK E ops.toList (CheckFast.beforeL ops.toList 0 []) (x :: l) ops.toList 0 [] [] s fun s' => fcTs (takeOver E.base s' ops.toList) k)
def evK : Code → List T → (Ex → List T → Option β) → Option β
  | .skip, s, k => k .nm s
  | .ret, s, k => k .rt s
  | .exit n, s, k => k (.ex n) s
  | .region id ops d, s, k => regionK E id ops d s fun s' => k .nm s'
  | .seq x y, s, k => evK x s fun e s' => match e with
    | .nm => (match E.pt (firstReg y) with
      | some L => fcTs (clean L.1 s') fun s2 => E.jn (firstReg y) s2 k
      | none => evK y s' k)
    | .ex n => k (.ex n) s'
    | .rt => k .rt s'
  | .cond t x y, s, k => boolSK s t fun b s => match b with
    | true => evK x s k
    | false => evK y s k
  | .block n x, s, k => evK x s fun e s' => match e with
    | .ex m => (match m == n with | true => k .nm s' | false => k (.ex m) s')
    | .nm => k .nm s'
    | .rt => k .rt s'
  | .loop x, s, k => E.lp (firstReg x) s k
  | _, _, _ => none
def ptEnd (pt : Nat → Option (List Bool × List Bool)) (id : Nat) (s : List T) : List T := match pt id with
  | some L => clean L.2 s
  | none => s
inductive Spot where
  | lp (x : Code)
  | pt (y : Code)
def cutsC (pt : Nat → Option (List Bool × List Bool)) : Code → List Spot
  | .seq x y => cutsC pt x ++ (match pt (firstReg y) with
    | some _ => [.pt y]
    | none => cutsC pt y)
  | .cond _ x y => cutsC pt x ++ cutsC pt y
  | .block _ x => cutsC pt x
  | .loop x => [.lp x]
  | _ => []
def subC : Code → List Bool → Code
  | c, [] => c
  | .seq x y, b :: l => (match b with | false => subC x l | true => subC y l)
  | .cond _ x y, b :: l => (match b with | false => subC x l | true => subC y l)
  | .block _ x, _ :: l => subC x l
  | .loop x, _ :: l => subC x l
  | c, _ => c
def bodyK (fn : Func) (args : List T) (k : T → List (List T) → Option β) : Option β :=
  match fn.body with
  | none => none
  | some c => match decide (args.length = fn.params.size + fn.nfree) && keepsB c args with
    | false => none
    | true => evK E c (args ++ List.replicate (fn.ntmps - args.length) .u) fun e s => match e with
      | .ex _ => none
      | _ => (match resTs E.base s fn.results.toList with
        | none => none
        | some ts => match outB E.base 0 args (s ++ ts.map gOf) with
          | none => none
          | some s2 => match outGs E.base ts.length s.length s2 with
            | none => none
            | some s3 => match readG s3 s.length ts with
              | none => none
              | some rs => match readB s3 0 args with
                | none => none
                | some bs => k (tup rs) bs)
end
end Go.Os
