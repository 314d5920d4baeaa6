/-
  The evaluator of the model's code over pure trees, and its soundness: part H of 8.
-/
import Derived.Test.YthlnfebecphcmaaGreatOsG
set_option linter.unusedVariables false
set_option linter.unusedSimpArgs false
set_option linter.unusedVariables false
namespace Go.Os
theorem shB_leaf {h : Sh} {x : R} {l : List R} {i o : Nat} (hb : shB h x = true) (hc : cellOf l i o = x) : leaf rk l i o h = x ∧ x.one = true := by
  subst hc
  cases h with
  | b =>
    simp only [shB] at hb
    split at hb
    · rename_i v hv
      simp [leaf, rk, rcb, hv, R.one]
    · cases hb
  | i k =>
    simp only [shB] at hb
    split at hb
    · rename_i k' n hv
      simp only [decide_eq_true_eq] at hb; subst hb
      simp [leaf, rk, rci, hv, R.one]
    · cases hb
  | s =>
    simp only [shB] at hb
    split at hb
    · rename_i v hv
      simp [leaf, rk, rcs, hv, R.one]
    · cases hb
  | sl sz e =>
    simp only [shB] at hb
    split at hb
    · rename_i z m hv
      have hb := eq_of_beq hb; subst hb
      simp [leaf, rk, rcl, hv, R.one]
    · cases hb
  | ag l => simp [shB] at hb
theorem cellOf_eq {l : List R} {i o : Nat} {x c : R} (h : l[i]? = some x) (hc : x.cells[o]? = some c) : cellOf l i o = c := by
  simp [cellOf, h, hc]
theorem shBs_leaves {l : List R} {i : Nat} {x : R} (hx : l[i]? = some x) : ∀ (hs : List Sh) (cs : List R) (o : Nat), shBs hs cs = true → (∀ k c, cs[k]? = some c → x.cells[o + k]? = some c) → leaves rk l i o hs = cs
  | [], cs, o, h, _ => by
    cases cs with
    | nil => rfl
    | cons c cs => simp [shBs] at h
  | h :: hs, cs, o, hh, hc => by
    cases cs with
    | nil => simp [shBs] at hh
    | cons c cs =>
      simp only [shBs, Bool.and_eq_true] at hh
      have h0 := hc 0 c rfl
      rw [Nat.add_zero] at h0
      rw [leaves, (shB_leaf hh.1 (cellOf_eq hx h0)).1, shBs_leaves hx hs cs (o + 1) hh.2 fun k c' hk => by
        have := hc (k + 1) c' (by simpa using hk)
        rwa [show o + (k + 1) = o + 1 + k by omega] at this]
theorem okE_spec {hs : List Sh} {agg : Bool} {l : List R} {i : Nat} (h : rk.okE hs agg l i = true) : l[i]? = some (elT rk hs agg l i) := by
  simp only [rk] at h
  split at h
  · rename_i x hx
    cases agg with
    | true =>
      try simp only at h
      split at h
      · rename_i cs
        rw [hx, elT]
        try simp only
        rw [shBs_leaves hx hs cs 0 h fun k c hk => by simpa [R.cells] using hk]
      · cases h
    | false =>
      try simp only at h
      split at h
      · rename_i hd
        have hone : x.one = true := by
          cases hd <;> simp only [shB] at h <;> first | cases h | (split at h <;> first | rfl | cases h)
        have hc : x.cells[0]? = some x := by cases x <;> first | rfl | simp [R.one] at hone
        rw [hx, elT]
        try simp only
        rw [(shB_leaf h (cellOf_eq hx hc)).1]
      · cases h
  · cases h
theorem shPs_get : ∀ (hs : List Sh) (cs : List R), shPs hs cs = true → ∀ (k : Nat) (h : Sh), hs[k]? = some h → ∃ c, cs[k]? = some c ∧ shB h c = true
  | [], cs, _, k, h, hk => by simp at hk
  | h0 :: hs, cs, hh, k, h, hk => by
    cases cs with
    | nil => simp [shPs] at hh
    | cons c cs =>
      simp only [shPs, Bool.and_eq_true] at hh
      cases k with
      | zero => simp at hk; subst hk; exact ⟨c, rfl, hh.1⟩
      | succ k => simpa using shPs_get hs cs hh.2 k h (by simpa using hk)
theorem okC_spec {hs : List Sh} {l : List R} {i o : Nat} (h : rk.okC hs l i o = true) : ∃ x, l[i]? = some x ∧ ∀ (k : Nat) (hd : Sh), hs[k]? = some hd → x.cells[o + k]? = some (leaf rk l i (o + k) hd) ∧ (leaf rk l i (o + k) hd).one = true := by
  simp only [rk] at h
  split at h
  · rename_i x hx
    refine ⟨x, hx, fun k hd hk => ?_⟩
    obtain ⟨c, hc, hb⟩ := shPs_get hs _ h k hd hk
    rw [List.getElem?_drop] at hc
    have := shB_leaf hb (cellOf_eq hx hc)
    rw [hc, this.1]
    exact ⟨rfl, this.2⟩
  · cases h
theorem leaves_get {B : Pk} {l : List R} {i : Nat} : ∀ (hs : List Sh) (o k : Nat), (leaves B l i o hs)[k]? = (hs[k]?).map fun h => leaf B l i (o + k) h
  | [], o, k => by simp [leaves]
  | h :: hs, o, k => by
    cases k with
    | zero => simp [leaves]
    | succ k =>
      simp only [leaves, List.getElem?_cons_succ]
      rw [leaves_get hs (o + 1) k, show o + 1 + k = o + (k + 1) by omega]
theorem leaves_len {B : Pk} {l : List R} {i : Nat} : ∀ (hs : List Sh) (o : Nat), (leaves B l i o hs).length = hs.length
  | [], o => rfl
  | h :: hs, o => by simp [leaves, leaves_len hs (o + 1)]
theorem splitE_spec : ∀ (q : Pth) (y : Pth × Nat × Nat × Nat), splitE q = some y → q = y.1 ++ [.e y.2.1 y.2.2.1 y.2.2.2]
  | [], y, h => by simp [splitE] at h
  | [x], y, h => by
    cases x with
    | e i sz o => simp only [splitE, Option.some.injEq] at h; subst h; rfl
    | d o => simp [splitE] at h
    | t k => simp [splitE] at h
  | x :: z :: q, y, h => by
    have h1 : splitE (x :: z :: q) = (splitE (z :: q)).map fun y => (x :: y.1, y.2) := by cases x <;> rfl
    rw [h1, Option.map_eq_some_iff] at h
    obtain ⟨y', hy, rfl⟩ := h
    have := splitE_spec (z :: q) y' hy
    rw [this]; rfl
theorem stepBy_snoc : ∀ (q : Pth) (i sz o k : Nat), stepBy (q ++ [.e i sz o]) k = q ++ [.e i sz (o + k)]
  | [], i, sz, o, k => rfl
  | [x], i, sz, o, k => by cases x <;> rfl
  | x :: y :: q, i, sz, o, k => by
    have : stepBy (x :: ((y :: q) ++ [.e i sz o])) k = x :: stepBy ((y :: q) ++ [.e i sz o]) k := by cases x <;> rfl
    show stepBy (x :: ((y :: q) ++ [.e i sz o])) k = _
    rw [this, stepBy_snoc (y :: q)]; rfl
theorem getT_append : ∀ (q q' : Pth) (t t1 : T), getT re t q = some t1 → getT re t (q ++ q') = getT re t1 q'
  | [], q', t, t1, h => by
    have : getT re t [] = some t := by cases t <;> simp [getT]
    rw [this] at h; cases h; rfl
  | x :: q, q', t, t1, h => by
    cases t with
    | bx l =>
      cases x <;> simp only [getT] at h
      case d k =>
        simp only [List.cons_append, getT]
        cases hk : l[k]? with
        | none => simp [hk] at h
        | some c => simp only [hk] at h ⊢; exact getT_append q q' c t1 h
      all_goals cases h
    | a l =>
      cases x <;> simp only [getT] at h
      case t k =>
        simp only [List.cons_append, getT]
        cases hk : l[k]? with
        | none => simp [hk] at h
        | some c => simp only [hk] at h ⊢; exact getT_append q q' c t1 h
      all_goals cases h
    | tp b l =>
      cases x <;> simp only [getT] at h
      case t k =>
        simp only [List.cons_append, getT]
        cases hk : l[k]? with
        | none => simp [hk] at h
        | some c => simp only [hk] at h ⊢; exact getT_append q q' c t1 h
      all_goals cases h
    | own fl sz l =>
      cases x <;> simp only [getT] at h
      case e i sz' o =>
        simp only [List.cons_append, getT]
        split at h
        · rename_i y h1 h2
          try simp only [h1, h2]
          cases hk : y.cells[o]? with
          | none => simp [hk] at h
          | some c => simp only [hk] at h ⊢; exact getT_append q q' (.r c) t1 h
        · cases h
      all_goals cases h
    | ow sz l =>
      cases x <;> simp only [getT] at h
      case e i sz' o =>
        simp only [List.cons_append, getT]
        split at h
        · rename_i y h1 h2
          try simp only [h1, h2]
          cases hk : y.cells[o]? with
          | none => simp [hk] at h
          | some c => simp only [hk] at h ⊢; exact getT_append q q' c t1 h
        · cases h
      all_goals cases h
    | r z =>
      cases z with
      | ro sz l =>
        cases x <;> simp only [getT] at h
        case e i sz' o =>
          simp only [List.cons_append, getT]
          split at h
          · rename_i y h1 h2
            try simp only [h1, h2]
            cases hk : y.cells[o]? with
            | none => simp [hk] at h
            | some c => simp only [hk] at h ⊢; exact getT_append q q' (.r c) t1 h
          · cases h
        all_goals cases h
      | _ => cases x <;> simp [getT] at h
    | _ => cases x <;> simp [getT] at h
section
variable {P : Program} {β : Type} {E : Ek β}
theorem boolK_ok {t : T} {k : Bool → Option β} {r : β} (h : boolK t k = some r) : ∃ b, boolT t = some b ∧ k b = some r := by
  unfold boolK at h
  split at h
  · split at h
    · rename_i v
      cases v
      · exact ⟨false, rfl, h⟩
      · exact ⟨true, rfl, h⟩
    · cases h
  · cases h
theorem ixK_ok (hA : E.A = re) {n : Int} {len : Nat} {k : Nat → Option β} {r : β} (h : ixK E n len k = some r) : ∃ i, re.ix n len = some i ∧ k i = some r := by
  unfold ixK at h
  rw [hA] at h
  split at h
  · rename_i i hi; exact ⟨i, hi, h⟩
  · cases h
theorem arrK_ok (hA : E.A = re) {n : Int} {k : Nat → Option β} {r : β} : ∀ (m j : Nat), arrK E n m j k = some r → ∃ i : Nat, n = (i : Int) ∧ j ≤ i ∧ i < j + m ∧ k i = some r
  | 0, j, h => by simp [arrK] at h
  | m + 1, j, h => by
    unfold arrK at h
    rw [hA] at h
    split at h
    · rename_i hc
      have : n = (j : Int) := by simpa [re, cmI] using hc
      exact ⟨j, this, Nat.le_refl _, by omega, h⟩
    · obtain ⟨i, h1, h2, h3, h4⟩ := arrK_ok hA m (j + 1) h
      exact ⟨i, h1, by omega, by omega, h4⟩
theorem arrCK_ok (hA : E.A = re) {c : Bool} {n : Int} {m : Nat} {k : Nat → Option β} {r : β} (h : arrCK E c n m k = some r) : ∃ i : Nat, n = (i : Int) ∧ 0 ≤ i ∧ i < 0 + m ∧ k i = some r := by
  unfold arrCK at h
  cases c with
  | true =>
    simp only at h
    split at h
    · rename_i hd
      have hd := of_decide_eq_true hd
      exact ⟨n.toNat, by omega, Nat.zero_le _, by omega, h⟩
    · cases h
  | false => exact arrK_ok hA m 0 h
theorem elK_ok (hB : E.B = rk) {e : TypeId} {l : List R} {i : Nat} {k : R → Option β} {r : β} (h : elK E e l i k = some r) : ∃ y, re.get l i = some y ∧ k y = some r := by
  unfold elK at h
  split at h
  · split at h
    · rw [hB] at h
      split at h
      · rename_i hok
        exact ⟨_, okE_spec hok, h⟩
      · cases h
    · cases h
  · cases h
theorem ix_of {n : Int} {i len : Nat} (h : n = (i : Int)) (hl : i < len) : re.ix n len = some i := by
  subst h
  simp [re]
  omega
theorem indexAddrK_ok (hA : E.A = re) (hB : E.B = rk) {s : List T} {t : TypeId} {x i : T} {k : T → Option β} {r : β} {c : Bool} (h : indexAddrK E c s t x i k = some r) : ∃ c, evIndexAddr E.base s t x i = some c ∧ k c = some r := by
  unfold indexAddrK at h
  unfold evIndexAddr
  cases hi : intT i with
  | none => simp [hi] at h
  | some n =>
    simp only [hi, Option.bind_some] at h ⊢
    cases ht : E.ti t with
    | none => simp [ht] at h
    | some ty =>
      have ht' : E.base.ti t = some ty := ht
      simp only [ht] at h
      cases he : ty.elem? with
      | some e =>
        simp only [he] at h
        cases hte : E.ti e with
        | none => simp [hte] at h
        | some te =>
          have hte' : E.base.ti e = some te := hte
          have hsl : slEl E.base t = some te := by simp [slEl, ht', he, hte']
          simp only [hte] at h
          simp only [hsl]
          split at h
          · cases h
          · rename_i hsz
            unfold elAddr
            rw [hsz]
            simp only
            split at h
            · split at h
              · obtain ⟨i, h1, h⟩ := ixK_ok hA h
                obtain ⟨y, h2, h⟩ := elK_ok hB h
                exact ⟨_, by simp only [Ek.base, mkE, hA] at h1 ⊢; rw [h1]; simp only [Option.bind_some]; rw [h2]; rfl, h⟩
              · cases h
            · split at h
              · cases h
              · rename_i m hm
                obtain ⟨i, h1, h⟩ := ixK_ok hA h
                refine ⟨_, ?_, h⟩
                have : E.base.A.ix n.2 m = some i := by simp only [Ek.base, mkE, hA]; exact h1
                simp only [hm, Option.bind_some, this, Option.map_some, Option.some.injEq]
                split <;> rfl
            · cases h
      | none =>
        simp only [he] at h
        have hsl : slEl E.base t = none := by simp [slEl, ht', he]
        simp only [hsl]
        split at h
        · cases h
        · rename_i a ha
          split at h
          · cases h
          · rename_i te hte
            have hte' : E.base.ti a.2 = some te := hte
            obtain ⟨j, h1, _, h2, h⟩ := arrCK_ok hA h
            have hix : E.base.A.ix n.2 a.1 = some j := by
              have := ix_of (len := a.1) h1 (by omega)
              simp only [Ek.base, mkE, hA]; exact this
            simp only [ht', Option.bind_some, ha, hte', hix]
            have hmul : E.base.A.mul j te.sz = j * te.sz := by simp only [Ek.base, mkE, hA]; rfl
            have hadd : ∀ o, addOff E.base.A o (j * te.sz) = o + j * te.sz := fun o => by
              simp only [Ek.base, mkE, hA]
              unfold addOff
              split <;> simp_all [re]
            split at h
            · exact ⟨_, by simp only [hmul], h⟩
            · exact ⟨_, by simp only [hmul, hadd], h⟩
            · cases h
theorem indexK_ok (hA : E.A = re) {t : TypeId} {x i : T} {k : T → Option β} {r : β} {c : Bool} (h : indexK E c t x i k = some r) : ∃ c, evIndex E.base t x i = some c ∧ k c = some r := by
  unfold indexK at h
  unfold evIndex
  cases hi : intT i with
  | none => simp [hi] at h
  | some n =>
    simp only [hi, Option.bind_some] at h ⊢
    cases ht : E.ti t with
    | none => simp [ht] at h
    | some ty =>
      have ht' : E.base.ti t = some ty := ht
      simp only [ht] at h
      split at h
      · cases h
      · rename_i a ha
        split at h
        · cases h
        · rename_i te hte
          have hte' : E.base.ti a.2 = some te := hte
          obtain ⟨j, h1, _, h2, h⟩ := arrCK_ok hA h
          have hix : E.base.A.ix n.2 a.1 = some j := by
            have := ix_of (len := a.1) h1 (by omega)
            simp only [Ek.base, mkE, hA]; exact this
          have hmul : E.base.A.mul j te.sz = j * te.sz := by simp only [Ek.base, mkE, hA]; rfl
          simp only [ht', Option.bind_some, ha, hte', hix, hmul]
          split at h
          · cases h
          · rename_i cs hcs
            split at h
            · rename_i c hc
              exact ⟨c, by rw [hcs]; exact hc, h⟩
            · cases h
theorem boundK_ok (hA : E.A = re) {s : List T} {y : Option Operand} {n d : Nat} {k : Nat → Option β} {r : β} (h : boundK E s y n d k = some r) : ∃ m, boundOf E.base s y n d = some m ∧ k m = some r := by
  unfold boundK at h
  unfold boundOf
  split at h
  · exact ⟨_, rfl, h⟩
  · split at h
    · rename_i v hv
      unfold sxK at h
      split at h
      · rename_i i hi
        exact ⟨i, by simp only [hv, Option.bind_some]; exact hi, h⟩
      · cases h
    · cases h
theorem sliceK_ok (hA : E.A = re) {s : List T} {t : TypeId} {x : T} {lo hi mx : Option Operand} {k : T → Option β} {r : β} (h : sliceK E s t x lo hi mx k = some r) : ∃ c, evSlice E.base s t x lo hi mx = some c ∧ k c = some r := by
  unfold sliceK at h
  unfold evSlice
  split at h
  · cases h
  · rename_i te hte
    rw [hte]
    simp only [Option.bind_some]
    split at h
    · cases h
    · rename_i hsz
      rw [hsz]
      simp only
      split at h
      · cases h
      · rename_i n hn
        rw [hn]
        simp only [Option.bind_some]
        obtain ⟨m, h1, h⟩ := boundK_ok hA h
        obtain ⟨h0, h2, h⟩ := boundK_ok hA h
        obtain ⟨l, h3, h⟩ := boundK_ok hA h
        rw [h1]
        simp only [Option.bind_some]
        rw [h2]
        simp only [Option.bind_some]
        rw [h3]
        simp only [Option.bind_some]
        split at h
        · exact ⟨x, rfl, h⟩
        · cases h
        · rename_i hne1 hne2
          split at h
          · rename_i c hc
            refine ⟨c, ?_, h⟩
            split
            · simp_all
            · simp_all
            · exact hc
          · cases h
theorem thenK_ok {α : Type} {x : Option α} {k : α → Option β} {r : β} (h : thenK x k = some r) : ∃ y, x = some y ∧ k y = some r := by
  unfold thenK at h
  split at h
  · rename_i y; exact ⟨y, rfl, h⟩
  · cases h
theorem cells_load (hA : E.A = re) {s : List T} {ty : TI} {r : Nat} {q0 : Pth} {i z o : Nat} {x : R} {hs : List Sh} {l : List R} {tr : T} (hget : getP re s r q0 = some tr) (htr : (∃ fl, tr = .own fl z l) ∨ tr = .r (.ro z l)) (hx : l[i]? = some x) (hlen : hs.length = ty.sz)
    (hc : ∀ (k : Nat) (hd : Sh), hs[k]? = some hd → x.cells[o + k]? = some (leaf rk l i (o + k) hd) ∧ (leaf rk l i (o + k) hd).one = true) :
    (ty.agg = true → loadT E.base s ty (.p r (q0 ++ [.e i z o])) = some (.r (.a (leaves rk l i o hs)))) ∧ (ty.agg = false → ∀ h, hs = [h] → loadT E.base s ty (.p r (q0 ++ [.e i z o])) = some (.r (leaf rk l i o h))) := by
  have hcell : ∀ k hd, hs[k]? = some hd → getP re s r (q0 ++ [.e i z (o + k)]) = some (.r (leaf rk l i (o + k) hd)) := by
    intro k hd hk
    unfold getP at hget ⊢
    rw [getT_append q0 _ _ _ hget]
    have h1 := (hc k hd hk).1
    have hg : re.get l i = some x := hx
    rcases htr with ⟨fl, rfl⟩ | rfl
    · simp only [getT, beq_self_eq_true, hg, h1]
    · simp only [getT, beq_self_eq_true, hg, h1]
  refine ⟨fun hag => ?_, fun hag h hh => ?_⟩
  · unfold loadT
    rw [hag]
    simp only
    have key : ∀ (n k : Nat), k + n = hs.length → loadC E.base s r (q0 ++ [.e i z o]) k n = some (((leaves rk l i o hs).drop k).map T.r) := by
      intro n
      induction n with
      | zero =>
        intro k hk
        have : (leaves rk l i o hs).length ≤ k := by rw [leaves_len]; omega
        simp [loadC, List.drop_eq_nil_of_le this]
      | succ n ih =>
        intro k hk
        have hlt : k < hs.length := by omega
        have hd := List.getElem?_eq_getElem hlt
        unfold loadC
        rw [stepBy_snoc]
        have := hcell k _ hd
        have hA' : E.base.A = re := hA
        rw [hA', this]
        simp only [Option.bind_some]
        rw [ih (k + 1) (by omega)]
        simp only [Option.map_some, Option.some.injEq]
        have hll : k < (leaves rk l i o hs).length := by rw [leaves_len]; exact hlt
        rw [List.drop_eq_getElem_cons hll]
        have e : (leaves rk l i o hs)[k] = leaf rk l i (o + k) hs[k] := by
          have := leaves_get (B := rk) (l := l) (i := i) hs o k
          rw [List.getElem?_eq_getElem hll, hd] at this
          simpa using this
        rw [e]; rfl
    rw [show ty.sz = hs.length from hlen.symm, key hs.length 0 (by omega)]
    simp only [List.drop_zero, Option.map_some, Option.some.injEq]
    have : ∀ xs : List R, toRL (xs.map T.r) = some xs := by
      intro xs
      induction xs with
      | nil => rfl
      | cons y ys ih => simp [toRL, toR, ih]
    unfold mkAgg
    rw [this]
  · unfold loadT
    rw [hag]
    simp only
    subst hh
    have h1 := hcell 0 h rfl
    rw [Nat.add_zero] at h1
    have hA' : E.base.A = re := hA
    rw [hA', h1]
    simp only [Option.bind_some]
    have h2 := (hc 0 h rfl).2
    rw [Nat.add_zero] at h2
    have : cellT (.r (leaf rk l i o h)) = true := by simpa [cellT, T.one] using h2
    rw [this]
    rfl
theorem cells_one {v : R} (h : v.one = true) : (T.r v).cells? = some [.r v] := by
  cases v <;> first | rfl | (simp [R.one] at h)
theorem shBs_plain : ∀ (hs : List Sh) (cs : List R), shBs hs cs = true → hs.all plainSh = true → cs.length = hs.length ∧ ∀ (j : Nat) (c : R), cs[j]? = some c → owner (.r c) = false ∧ c.one = true
  | [], cs, h, _ => by
    cases cs with
    | nil => exact ⟨rfl, fun j c hj => by simp at hj⟩
    | cons _ _ => simp [shBs] at h
  | hd :: hs, cs, h, hp => by
    cases cs with
    | nil => simp [shBs] at h
    | cons c cs =>
      simp only [shBs, Bool.and_eq_true] at h
      simp only [List.all_cons, Bool.and_eq_true] at hp
      obtain ⟨i1, i2⟩ := shBs_plain hs cs h.2 hp.2
      refine ⟨by simp [i1], fun j c' hj => ?_⟩
      cases j with
      | zero =>
        simp only [List.getElem?_cons_zero, Option.some.injEq] at hj
        subst hj
        cases hd with
        | b => cases c <;> first | exact ⟨rfl, rfl⟩ | (simp [shB] at h)
        | i _ => cases c <;> first | exact ⟨rfl, rfl⟩ | (simp [shB] at h)
        | _ => simp [plainSh] at hp
      | succ j => exact i2 j c' (by simpa using hj)
theorem dropL_el (hA : E.A = re) {s cs : List T} {r i z : Nat} {fl : Bool} {l x : List R} (hsl : slot s r = .own fl z l) (hx : l[i]? = some (.a x)) (hp : ∀ (j : Nat) (c : R), x[j]? = some c → owner (.r c) = false ∧ c.one = true) : ∀ (n k : Nat), k + n ≤ x.length →
    dropL E.base s cs [] r [.e i z 0] k n = some (s, cs, [])
  | 0, k, _ => rfl
  | n + 1, k, h => by
    have hk : k < x.length := by omega
    have hA' : E.base.A = re := hA
    have hget : getP re s r [.e i z (0 + k)] = some (.r x[k]) := by
      unfold getP
      rw [hsl]
      have hg : re.get l i = some (.a x) := hx
      simp only [getT, beq_self_eq_true, hg, R.cells, Nat.zero_add, List.getElem?_eq_getElem hk]
    have ho := (hp k x[k] (List.getElem?_eq_getElem hk)).1
    have hst : stepBy [Sp.e i z 0] k = [.e i z (0 + k)] := rfl
    unfold dropL
    simp only [hst, hA', hget, Option.bind_some, ho]
    exact dropL_el hA hsl hx hp n (k + 1) (by omega)
theorem storeL_el (hA : E.A = re) {r i z : Nat} {fl : Bool} : ∀ (cs : List R) (s : List T) (W : List Nat) (k : Nat) (l x : List R), slot s r = .own fl z l → l[i]? = some (.a x) → (∀ (j : Nat) (c : R), k ≤ j → x[j]? = some c → owner (.r c) = false ∧ c.one = true) → k + cs.length = x.length → cs.all R.one = true →
    storeL E.base s W r [.e i z 0] k (cs.map T.r) = some (match cs with | [] => s | _ => s.set r (.own fl z (l.set i (.a (x.take k ++ cs)))), List.replicate cs.length r ++ W)
  | [], s, W, k, l, x, hsl, hx, hp, hk, ho => by simp [storeL]
  | c :: cs, s, W, k, l, x, hsl, hx, hp, hk, ho => by
    simp only [List.length_cons] at hk
    simp only [List.all_cons, Bool.and_eq_true] at ho
    have hkx : k < x.length := by omega
    have hA' : E.base.A = re := hA
    have hg : re.get l i = some (.a x) := hx
    have hget : getP re s r [.e i z (0 + k)] = some (.r x[k]) := by
      unfold getP
      rw [hsl]
      simp only [getT, beq_self_eq_true, hg, R.cells, Nat.zero_add, List.getElem?_eq_getElem hkx]
    obtain ⟨h1, h2⟩ := hp k x[k] (Nat.le_refl _) (List.getElem?_eq_getElem hkx)
    have hcell : cellT (.r x[k]) = true := by simpa [cellT, T.one] using h2
    have hset : setP re s r [.e i z (0 + k)] (.r c) = some (s.set r (.own fl z (l.set i (.a (x.set k c))))) := by
      unfold setP
      rw [hsl]
      simp only [setT, beq_self_eq_true, hg, R.cells, Nat.zero_add, List.getElem?_eq_getElem hkx, R.setCell]
      rfl
    have hrs : r < s.length := by
      rcases Nat.lt_or_ge r s.length with h | h
      · exact h
      · rw [slot_ge h] at hsl; cases hsl
    have hil : i < l.length := (List.getElem?_eq_some_iff.1 hx).1
    have hst : stepBy [Sp.e i z 0] k = [.e i z (0 + k)] := rfl
    have hsl2 : slot (s.set r (.own fl z (l.set i (.a (x.set k c))))) r = .own fl z (l.set i (.a (x.set k c))) := by rw [slot_set, if_pos ⟨rfl, hrs⟩]
    have hx2 : (l.set i (.a (x.set k c)))[i]? = some (.a (x.set k c)) := by rw [List.getElem?_set_self hil]
    have ih := storeL_el hA cs (s.set r (.own fl z (l.set i (.a (x.set k c))))) (r :: W) (k + 1) (l.set i (.a (x.set k c))) (x.set k c) hsl2 hx2 (fun j c' hj hc' => by
      rw [List.getElem?_set_ne (by omega)] at hc'
      exact hp j c' (by omega) hc') (by rw [List.length_set]; omega) ho.2
    have htk : (x.set k c).take (k + 1) = x.take k ++ [c] := by
      rw [List.take_add_one, List.take_set_of_le (Nat.le_refl _), List.getElem?_set_self hkx]; rfl
    have hxk : x.set k c = x.take k ++ c :: x.drop (k + 1) := List.set_eq_take_append_cons_drop .. |>.trans (by rw [if_pos hkx])
    unfold storeL
    simp only [List.map_cons, hst, hA', hget, Option.bind_some, free, hcell, h1, storeC, isR, T.one, ho.1, Bool.and_self, Bool.true_or, hset, Option.map_some]
    rw [ih]
    simp only [Option.some.injEq, Prod.mk.injEq]
    refine ⟨?_, ?_⟩
    · cases cs with
      | nil =>
        have : x.drop (k + 1) = [] := List.drop_of_length_le (by simp at hk; omega)
        rw [hxk, this]
      | cons c2 cs2 =>
        simp only [List.set_set, htk, List.append_assoc, List.singleton_append]
    · rw [List.length_cons, List.replicate_succ', List.append_assoc]; rfl
theorem store1K_ok (hA : E.A = re) (hB : E.B = rk) {s : List T} {o : Oper} {t : TypeId} {a b : Operand} (ho : o.op = .store t a b) {k : Eff → Option β} {r : β} (h : store1K E s o t (opd s a) (opd s b) k = some r) : ∃ e, evOp E.base s o = some e ∧ k e = some r := by
  unfold store1K at h
  split at h
  · rename_i rr q hx
    split at h
    · rename_i st
      split at h
      · rename_i i z c
        split at h
        · rename_i fl z' l hsl
          split at h
          · rename_i hdst
            split at h
            · rename_i hz
              have hz := eq_of_beq hz
              subst hz
              split at h
              · cases h
              · rename_i ty hty
                split at h
                · rename_i hd hsh
                  split at h
                  · rename_i hpl
                    simp only [Bool.and_eq_true, beq_iff_eq] at hpl
                    split at h
                    · rename_i v hy
                      split at h
                      · rename_i hv
                        rw [hB] at h
                        split at h
                        · rename_i hok
                          obtain ⟨x, hxl, hc⟩ := okC_spec hok
                          obtain ⟨hc1, hc2⟩ := hc 0 hd rfl
                          rw [Nat.add_zero] at hc1 hc2
                          refine ⟨_, ?_, h⟩
                          have hA' : E.base.A = re := hA
                          have hty' : E.base.ti t = some ty := hty
                          have hget : getP re s rr [.e i z' c] = some (.r (leaf rk l i c hd)) := by
                            unfold getP
                            rw [hsl]
                            have hg : re.get l i = some x := hxl
                            simp only [getT, beq_self_eq_true, hg, hc1]
                          have hown : owner (.r (leaf rk l i c hd)) = false := by
                            cases hd <;> first | rfl | (simp [plainSh] at hpl)
                          have hcell : cellT (.r (leaf rk l i c hd)) = true := by simpa [cellT, T.one] using hc2
                          have hset : setP re s rr [.e i z' c] (.r v) = some (s.set rr (.own fl z' (rk.upd l i c v))) := by
                            unfold setP
                            rw [hsl]
                            have hg : re.get l i = some x := hxl
                            have hu : rk.upd l i c v = l.set i (x.setCell c v) := by
                              show (match l[i]? with | some x => l.set i (x.setCell c v) | none => l) = _
                              rw [hxl]
                            simp only [setT, beq_self_eq_true, hg, hc1, hu]
                            rfl
                          simp only [evOp, ho, hdst, hx, hy]
                          unfold evStore
                          rw [hty']
                          simp only [Option.bind_some, cells_one hv, List.length_singleton, hpl.2]
                          have hst : ∀ n, stepBy [Sp.e i z' c] n = [.e i z' (c + n)] := fun n => rfl
                          simp only [decide_true, Bool.true_and, List.all_cons, List.all_nil, Sp.mem, Bool.and_self, dropL, hst, Nat.add_zero, hA', hget, Option.bind_some, hown, storeL, free, hcell, storeC, isR, T.one, hv, Bool.true_or, hset, Option.map_some]
                        · cases h
                      · cases h
                    · cases h
                  · exact thenK_ok h
                · rename_i hs hsh hne
                  split at h
                  · rename_i hpl
                    simp only [Bool.and_eq_true, beq_iff_eq] at hpl
                    obtain ⟨⟨⟨p1, p2⟩, p3⟩, rfl⟩ := hpl
                    split at h
                    · rename_i v hy
                      split at h
                      · rename_i cs
                        split at h
                        · rename_i hcs
                          simp only [Bool.and_eq_true, beq_iff_eq] at hcs
                          rw [hB] at h
                          split at h
                          · rename_i hok
                            obtain ⟨x, hxl, hsb⟩ : ∃ x, l[i]? = some (.a x) ∧ shBs hs x = true := by
                              simp only [rk] at hok
                              split at hok
                              · rename_i y hyl
                                split at hok
                                · exact ⟨_, hyl, hok⟩
                                · cases hok
                              · cases hok
                            obtain ⟨x1, x2⟩ := shBs_plain hs x hsb p1
                            have hty' : E.base.ti t = some ty := hty
                            have hcells : (T.r (.a cs)).cells? = some (cs.map T.r) := by
                              simp only [T.cells?, hcs.1]
                            refine ⟨_, ?_, h⟩
                            simp only [evOp, ho, hdst, hx, hy]
                            unfold evStore
                            rw [hty']
                            have hdr := dropL_el hA (cs := cs.map T.r) hsl hxl x2 ty.sz 0 (by omega)
                            have hstl := storeL_el hA cs s [] 0 l x hsl hxl (fun j c' _ hc' => x2 j c' hc') (by omega) hcs.1
                            have hlen : (cs.map T.r).length = ty.sz := by rw [List.length_map]; omega
                            simp only [Option.bind_some, hcells, hlen, decide_true, Bool.true_and, List.all_cons, List.all_nil, Sp.mem, Bool.and_self, hdr, hstl, Option.some.injEq, Prod.mk.injEq, List.append_nil, and_true]
                            have hA2 : E.A = re := hA
                            rw [hA2]
                            cases cs with
                            | nil =>
                              have hx0 : x = [] := List.eq_nil_of_length_eq_zero (by simp at hcs; omega)
                              subst hx0
                              show s = s.set rr (.own fl z' (l.set i (.a [])))
                              have hil : i < l.length := (List.getElem?_eq_some_iff.1 hxl).1
                              have e1 : l.set i (.a []) = l := by
                                apply List.ext_getElem?
                                intro j
                                by_cases hj : i = j
                                · subst hj; rw [List.getElem?_set_self hil, hxl]
                                · rw [List.getElem?_set_ne hj]
                              rw [e1, ← hsl]
                              apply List.ext_getElem?
                              intro j
                              by_cases hj : rr = j
                              · subst hj
                                rcases Nat.lt_or_ge rr s.length with hlt | hge
                                · rw [List.getElem?_set_self hlt]
                                  unfold slot
                                  rw [List.getD_eq_getElem?_getD, List.getElem?_eq_getElem hlt]; rfl
                                · rw [List.getElem?_eq_none hge, List.getElem?_eq_none (by simpa using hge)]
                              · rw [List.getElem?_set_ne hj]
                            | cons c cs => rfl
                          · cases h
                        · cases h
                      · cases h
                    · cases h
                  · exact thenK_ok h
                · exact thenK_ok h
            · cases h
          · cases h
        · exact thenK_ok h
      · exact thenK_ok h
    · exact thenK_ok h
  · exact thenK_ok h
theorem loadK_ok (hA : E.A = re) (hB : E.B = rk) {s : List T} {t : TypeId} {x : T} {k : T → Option β} {r : β} (h : loadK E s t x k = some r) : ∃ c, ((E.base.ti t).bind fun ty => loadT E.base s ty x) = some c ∧ k c = some r := by
  unfold loadK at h
  cases ht : E.ti t with
  | none => simp [ht] at h
  | some ty =>
    have ht' : E.base.ti t = some ty := ht
    simp only [ht] at h
    rw [ht']
    simp only [Option.bind_some]
    have viaCells : ∀ {rr : Nat} {q : Pth} {y : Pth × Nat × Nat × Nat} {z : Nat} {l : List R} {tr : T}, splitE q = some y → getP re s rr y.1 = some tr → ((∃ fl, tr = .own fl z l) ∨ tr = .r (.ro z l)) →
        (match z == y.2.2.1 with | true => cellsK E t ty l y.2.1 y.2.2.2 k | false => none) = some r → ∃ c, loadT E.base s ty (.p rr q) = some c ∧ k c = some r := by
      intro rr q y z l tr hq hg htr h
      split at h
      · rename_i hz
        have hz := eq_of_beq hz
        have hq2 := splitE_spec q y hq
        unfold cellsK at h
        split at h
        · cases h
        · rename_i hs _
          split at h
          · cases h
          · rename_i hlen
            have hlen := eq_of_beq hlen
            rw [hB] at h
            split at h
            · cases h
            · rename_i hok
              obtain ⟨x, hx, hc⟩ := okC_spec hok
              rw [hz] at htr
              obtain ⟨c1, c2⟩ := cells_load (E := E) hA hg htr hx hlen hc
              rw [← hq2] at c1 c2
              split at h
              · rename_i hag; exact ⟨_, c1 hag, h⟩
              · rename_i hag
                split at h
                · exact ⟨_, c2 hag _ rfl, h⟩
                · cases h
      · cases h
    cases x with
    | p rr q =>
      simp only at h
      split at h
      · rename_i y hy
        split at h
        · rename_i fl z l hg
          rw [hA] at hg
          exact viaCells hy hg (.inl ⟨fl, rfl⟩) h
        · rename_i z l hg
          rw [hA] at hg
          exact viaCells hy hg (.inr rfl) h
        · exact thenK_ok h
      · exact thenK_ok h
    | _ => exact thenK_ok h
end
end Go.Os
set_option linter.unusedVariables false
namespace Go.Os
section
variable {P : Program} {β : Type} {E : Ek β}
theorem set_slot_same {s : List T} {t : Nat} {x : T} (h : slot s t = x) (hx : x ≠ .u) : s.set t x = s := by
  apply List.ext_getElem?
  intro i
  rw [List.getElem?_set]
  split
  · rename_i hi
    subst hi
    split
    · rename_i hlt
      have : slot s t = s[t] := by unfold slot; simp [List.getD_eq_getElem?_getD, hlt]
      rw [List.getElem?_eq_getElem hlt, ← h, this]
    · rename_i hlt
      rw [List.getElem?_eq_none (by omega)]
  · rfl
theorem boolSK_ok' {s : List T} {o : Operand} {k : Bool → List T → Option β} {r : β} (h : boolSK s o k = some r) : ∃ b, tstO s o = .r (.b b) ∧ k b s = some r := by
  have hs : ∀ v, tstO s o = .r (.b v) → setO s o v = s := by
    intro v hv
    unfold setO
    split
    · rename_i t
      have hv : slot s t = .r (.b v) := hv
      exact set_slot_same hv (by simp)
    · rfl
  unfold boolSK at h
  split at h
  · rename_i x hx
    split at h
    · rename_i v
      cases v with
      | true => rw [hs true hx] at h; exact ⟨true, hx, h⟩
      | false => rw [hs false hx] at h; exact ⟨false, hx, h⟩
    · cases h
  · cases h
theorem boolSK_ok {s : List T} {o : Operand} {k : Bool → List T → Option β} {r : β} (h : boolSK s o k = some r) : ∃ b, boolT (opd s o) = some b ∧ k b s = some r := by
  obtain ⟨b, h1, h2⟩ := boolSK_ok' h
  refine ⟨b, ?_, h2⟩
  cases o with
  | tmp t =>
    have h1 : slot s t = .r (.b b) := h1
    show boolT (bor t [] (slot s t)) = _
    rw [h1]; rfl
  | const v => rw [show opd s (.const v) = .r (.b b) from h1]; rfl
  | func v => rw [show opd s (.func v) = .r (.b b) from h1]; rfl
  | global v => rw [show opd s (.global v) = .r (.b b) from h1]; rfl
theorem convK_ok (hA : E.A = re) {s : List T} {t1 t2 : TypeId} {x : T} {k : R → Option β} {r : β} (h : convK E s t1 t2 x k = some r) : ∃ c, evConv E.base s t1 t2 x = some c ∧ k c = some r := by
  have hb : E.base.A = E.A := rfl
  unfold convK at h
  unfold evConv
  split at h
  · rename_i ta ty h1 h2
    rw [h1, h2]
    simp only [Option.bind_some]
    split at h
    · rename_i kk hk
      rw [hk]
      split at h
      · rename_i y hy
        rw [hy]
        exact ⟨_, rfl, h⟩
      · cases h
    · rename_i hk
      rw [hk]
      split at h
      · rename_i hs
        simp only [hs]
        split at h
        · rename_i l hl
          rw [hl]
          split at h
          · rename_i hz
            split at h
            · rename_i hok
              rw [hb]
              simp only [Option.bind_some, hz, hok, Bool.and_self]
              exact ⟨_, rfl, h⟩
            · cases h
          · cases h
        · cases h
      · cases h
  · cases h
theorem makeK_ok (hA : E.A = re) {s : List T} {t : TypeId} {n c : T} {k : T → Option β} {r : β} (h : makeK E s t n c k = some r) : ∃ x, evMake E.base t n c = some x ∧ k x = some r := by
  unfold makeK at h
  unfold evMake
  split at h
  · rename_i te y yc hte hy hyc
    simp only [hte, hy, hyc, Option.bind_some]
    split at h
    · cases h
    · rename_i z hz
      simp only [hz, Option.bind_some]
      split at h
      · cases h
      · rename_i mc hmc
        have hmc' : E.base.A.mkn yc.2 te.bytes = some mc := hmc
        simp only [hmc', Option.bind_some]
        unfold sxK at h
        split at h
        · rename_i m hm
          have hm' : E.base.A.sx y.2 mc = some m := hm
          simp only [hm', Option.bind_some]
          split at h
          · cases h
          · rename_i hz0
            refine ⟨_, ?_, h⟩
            split
            · simp_all
            · rfl
        · cases h
  · cases h
theorem binK_ok {s : List T} {o : Oper} {op : BinOp} {t t2 : TypeId} {x y : Operand} (ho : o.op = .binOp op t x y t2) {k : Eff → Option β} {r : β} (h : binK E s o op t (opd s x) (opd s y) k = some r) : ∃ e, evOp E.base s o = some e ∧ k e = some r := by
  have toR_int : ∀ {a : T} {v : IntKind × Int}, intT a = some v → toR a = some (.i v.1 v.2) := by
    intro a v ha
    unfold intT at ha
    split at ha
    · cases ha; rfl
    · cases ha
  have fin : ∀ {a b : IntKind × Int} {q : R}, intT (opd s x) = some a → intT (opd s y) = some b → intOp E.base op a.1 b.1 a.2 b.2 = some q → k (putD s o.dst (.r q)) = some r → ∃ e, evOp E.base s o = some e ∧ k e = some r := by
    intro a b q ha hb hq hk
    refine ⟨_, ?_, hk⟩
    unfold evOp
    simp only [ho]
    unfold retR binT
    simp only [toR_int ha, toR_int hb, Option.bind_some, binR, hq, Option.map_some]
  have nilfin : nilK E s o op t (opd s x) (opd s y) k = some r → ∃ e, evOp E.base s o = some e ∧ k e = some r := by
    intro h
    unfold nilK at h
    split at h
    · rename_i l hl
      have hx : ∃ z, opd s x = .r (.ro z l) ∧ opd s y = .r .sn := by
        unfold isRoNil at hl
        split at hl
        · rename_i a hxa
          split at hl
          · rename_i z l'
            split at hl
            · rename_i b hyb
              split at hl
              · cases hl; exact ⟨z, hxa, hyb⟩
              · cases hl
            · cases hl
          · cases hl
        · cases hl
      obtain ⟨z, hx, hy⟩ := hx
      split at h
      · cases h
      · rename_i hz
        have hz : E.base.A.nz (E.base.A.on (E.base.A.len l)) = false := hz
        obtain ⟨e, he, hk⟩ := thenK_ok h
        refine ⟨e, ?_, hk⟩
        rw [← he]
        unfold evOp
        simp only [ho]
        unfold retR binT
        rw [hx, hy]
        show Option.map _ ((binR E.base op t (.ro z l) .sn)) = _
        simp only [binR, hz]
    · exact thenK_ok h
  unfold binK at h
  split at h
  · exact nilfin h
  · exact nilfin h
  · split at h
    · rename_i a b ha hb
      split at h
      · rename_i hs; exact fin ha hb (by unfold intOp; simp only; rw [show E.base.A.sh b.2 = true from hs]; rfl) h
      · cases h
    · cases h
  · split at h
    · rename_i a b ha hb
      split at h
      · rename_i hs; exact fin ha hb (by unfold intOp; simp only; rw [show E.base.A.sh b.2 = true from hs]; rfl) h
      · cases h
    · cases h
  · split at h
    · rename_i a b ha hb
      split at h
      · rename_i hk
        split at h
        · cases h
        · rename_i hs; exact fin ha hb (by unfold intOp; simp only; rw [hk, show E.base.A.nz b.2 = false from hs]; rfl) h
      · cases h
    · cases h
  · split at h
    · rename_i a b ha hb
      split at h
      · rename_i hk
        split at h
        · cases h
        · rename_i hs; exact fin ha hb (by unfold intOp; simp only; rw [hk, show E.base.A.nz b.2 = false from hs]; rfl) h
      · cases h
    · cases h
  · exact thenK_ok h
theorem appendK_ok {s : List T} {d : Option Nat} {t t2 : TypeId} {x y : Operand} {k : Eff → Option β} {r : β} (h : appendK E s d t t2 x y k = some r) : ∃ e, evAppend E.base s d t t2 x y = some e ∧ k e = some r := by
  unfold appendK at h
  unfold evAppend evAppend1
  split at h
  · cases h
  · rename_i f hf
    simp only [hf, Option.bind_some]
    split at h
    · cases h
    · rename_i htt
      rw [htt]
      simp only
      split at h
      · cases h
      · rename_i te hte
        simp only [hte, Option.bind_some]
        split at h
        · cases h
        · rename_i z hz
          simp only [hz, Option.bind_some]
          split at h
          · cases h
          · rename_i ys hys
            simp only [hys, Option.bind_some]
            split at h
            · cases h
            · rename_i hso
              rw [hso]
              simp only
              split at h
              · rename_i z0 hx
                split at h
                · split at h
                  · cases h
                  · rename_i h0
                    split at h
                    · rename_i hsm
                      refine ⟨_, ?_, h⟩
                      have : (E.base.A.small (E.base.A.len ys) te.bytes && !(te.sz == 0)) = true := by
                        rw [h0, show E.base.A.small (E.base.A.len ys) te.bytes = true from hsm]; rfl
                      simp only [hx, this, Option.map_some]
                    · cases h
                · cases h
              · rename_i rr q sz w hx
                split at h
                · cases h
                · split at h
                  · rename_i fl z1 l hg
                    split at h
                    · cases h
                    · rename_i hzz
                      split at h
                      · cases h
                      · rename_i hsm
                        split at h
                        · cases h
                        · rename_i s1 hs1
                          refine ⟨_, ?_, h⟩
                          have hg' : getP E.base.A f.1 rr q = some (.own fl z1 l) := hg
                          have hs1' : setP E.base.A (killAll rr q f.1) rr q .u = some s1 := hs1
                          have hc : (z1 == te.sz && sz == te.sz && E.base.A.small (E.base.A.len (E.base.A.app l ys)) te.bytes) = true := by
                            rw [hzz, show E.base.A.small (E.base.A.len (E.base.A.app l ys)) te.bytes = true from hsm]; rfl
                          simp only [hx, hg', Option.bind_some, hc, hs1', Option.map_some]
                          rfl
                  · cases h
              · cases h
variable {H : Hints} {lv : FH}
def Rn (P : Program) (H : Hints) (lv : FH) (n : Nat) : Env := mkE re (tiOf P) (runF P re H n) (lpF P re (runF P re H n) lv n) lv.pt
structure EkOK (P : Program) (H : Hints) (lv : FH) (E : Ek β) : Prop where
  A : E.A = re
  B : E.B = rk
  ti : E.ti = tiOf P
  call : ∀ f a kk r, E.call f a kk = some r → ∃ n res, runF P re H n f a = some res ∧ kk res.1 res.2 = some r
  pt : E.pt = lv.pt
def CutOK (P : Program) (H : Hints) (lv : FH) (E : Ek β) : Spot → Prop
  | .lp x => ∀ s kk r, E.lp (firstReg x) s kk = some r → ∃ n e s', lpF P re (runF P re H n) lv n x s = some (e, s') ∧ kk e s' = some r
  | .pt y => ∀ s kk r, E.jn (firstReg y) s kk = some r → ∃ n e s', ev (Rn P H lv n) y s = some (e, s') ∧ kk e (ptEnd lv.pt (firstReg y) s') = some r
def CutsOK (P : Program) (H : Hints) (lv : FH) (E : Ek β) : List Spot → Prop
  | [] => True
  | x :: l => CutOK P H lv E x ∧ CutsOK P H lv E l
theorem CutsOK.mem : ∀ {l : List Spot}, CutsOK P H lv E l → ∀ x ∈ l, CutOK P H lv E x
  | y :: l, h, x, hx => by
    rcases List.mem_cons.1 hx with rfl | hx
    · exact h.1
    · exact CutsOK.mem h.2 x hx
theorem EkOK.base (h : EkOK P H lv E) : E.base = mkE re (tiOf P) (fun _ _ => none) (fun _ _ => none) lv.pt := by
  simp only [Ek.base, h.A, h.ti, h.pt]
theorem leC_none {c : CallF} : LeC (fun _ _ => none) c := fun f a r h => by cases h
theorem leL_none {l : LpFn} : LeL (fun _ _ => none) l := fun f a r h => by cases h
theorem doCallK_ok (h : EkOK P H lv E) {s : List T} {d : Option Nat} {f : FuncId} {args : List T} {k : Eff → Option β} {r : β} (hk : doCallK E s d f args k = some r) :
    ∃ n e, doCall (Rn P H lv n) s d f args = some e ∧ k e = some r := by
  unfold doCallK at hk
  rw [h.base] at hk
  split at hk
  · cases hk
  · rename_i hh hhand
    split at hk
    · cases hk
    · rename_i hlent
      obtain ⟨n, res, hrun, hk⟩ := h.call _ _ _ _ hk
      split at hk
      · cases hk
      · rename_i fz hfz
        split at hk
        · cases hk
        · rename_i s1 hs1
          refine ⟨n, _, ?_, hk⟩
          unfold doCall
          have e1 := handArgs_en (A := re) (ti := tiOf P) (c := fun _ _ => none) (l := fun _ _ => none) (c' := runF P re H n) (l' := lpF P re (runF P re H n) lv n) (pt := lv.pt)
          have e2 := lentL_en (A := re) (ti := tiOf P) (c := fun _ _ => none) (l := fun _ _ => none) (c' := runF P re H n) (l' := lpF P re (runF P re H n) lv n) (pt := lv.pt)
          have e3 := freezeAll_en (A := re) (ti := tiOf P) (c := fun _ _ => none) (l := fun _ _ => none) (c' := runF P re H n) (l' := lpF P re (runF P re H n) lv n) (pt := lv.pt)
          have e4 := handM_en (A := re) (ti := tiOf P) (c := fun _ _ => none) (l := fun _ _ => none) (c' := runF P re H n) (l' := lpF P re (runF P re H n) lv n) (pt := lv.pt)
          rw [e4, e1] at hhand
          rw [e4, e2] at hlent hfz
          rw [e3] at hfz
          show (handArgs (Rn P H lv n) s (handM (Rn P H lv n) f) args).bind _ = _
          unfold Rn
          simp only [hhand, Option.bind_some, hlent]
          have hcall : (mkE re (tiOf P) (runF P re H n) (lpF P re (runF P re H n) lv n) lv.pt).call f hh.1 = some res := hrun
          simp only [hcall, Option.bind_some]
          refine Option.bind_eq_some_iff.2 ⟨fz, hfz, ?_⟩
          simp only [hs1, Option.map_some]
          rfl
theorem evOp_up (h : EkOK P H lv E) {s : List T} {o : Oper} {k : Eff → Option β} {r : β} (he : ∃ e, evOp E.base s o = some e ∧ k e = some r) : ∃ n e, evOp (Rn P H lv n) s o = some e ∧ k e = some r := by
  obtain ⟨e, h1, h2⟩ := he
  rw [h.base] at h1
  exact ⟨0, e, evOp_le leC_none h1, h2⟩
theorem opK_ok (h : EkOK P H lv E) {s : List T} {o : Oper} {k : Eff → Option β} {r : β} (hk : opK E s o k = some r) : ∃ n e, evOp (Rn P H lv n) s o = some e ∧ k e = some r := by
  have ret : ∀ {t : Option T}, (∃ c, t = some c ∧ k (putD s o.dst c) = some r) → evOp E.base s o = retT s o.dst t → ∃ n e, evOp (Rn P H lv n) s o = some e ∧ k e = some r := by
    intro t ⟨c, h1, h2⟩ he
    refine evOp_up h ⟨_, ?_, h2⟩
    rw [he, h1]; rfl
  unfold opK at hk
  split at hk
  · rename_i c a b ho
    obtain ⟨x, h1, hk⟩ := boolSK_ok hk
    refine ret (t := evPick (opd s c) (opd s a) (opd s b)) ?_ (by simp only [evOp, ho])
    unfold evPick
    rw [h1]
    simp only [Option.bind_some]
    cases x with
    | true => exact ⟨_, rfl, hk⟩
    | false => exact ⟨_, rfl, hk⟩
  · rename_i ho; exact evOp_up h (binK_ok ho hk)
  · rename_i ho; exact ret (indexAddrK_ok h.A h.B hk) (by simp only [evOp, ho])
  · rename_i ho; exact ret (indexK_ok h.A hk) (by simp only [evOp, ho])
  · rename_i ho; exact ret (sliceK_ok h.A hk) (by simp only [evOp, ho])
  · rename_i ho; exact ret (loadK_ok h.A h.B hk) (by simp only [evOp, ho])
  · rename_i ho; exact evOp_up h (store1K_ok h.A h.B ho hk)
  · rename_i ho; exact ret (makeK_ok h.A hk) (by simp only [evOp, ho])
  · rename_i t1 t2 x ho
    obtain ⟨c, h1, h2⟩ := convK_ok h.A hk
    refine evOp_up h ⟨_, ?_, h2⟩
    simp only [evOp, ho, h1]; rfl
  · rename_i c ho
    unfold callK at hk
    split at hk
    · rename_i g hc
      split at hk
      · rename_i f cap hg
        split at hk
        · rename_i hp
          simp only [Bool.and_eq_true] at hp
          obtain ⟨n, e, h1, h2⟩ := doCallK_ok h hk
          exact ⟨n, e, by simp only [evOp, ho, evCall, hc, hg, hp.1, hp.2]; exact h1, h2⟩
        · cases hk
      · cases hk
    · rename_i b hc
      unfold builtinK at hk
      split at hk
      · split at hk
        · rename_i t t2 x y htys hargs
          obtain ⟨e, h1, h2⟩ := appendK_ok hk
          exact evOp_up h ⟨e, by simp only [evOp, ho, evCall, hc, evBuiltin, htys, hargs]; exact h1, h2⟩
        · cases hk
      · exact evOp_up h (thenK_ok hk)
    · cases hk
  · exact evOp_up h (thenK_ok hk)
theorem wantsK_ok (h : EkOK P H lv E) {all : List Oper} {s : List T} {o : Oper} {k : Bool → List T → Option β} {r : β} (hk : wantsK all s o k = some r) : ∃ b, (∀ n, wants (Rn P H lv n) all s o = some b) ∧ k b s = some r := by
  unfold wantsK at hk
  unfold wants
  split at hk
  · rename_i hg; exact ⟨true, fun n => by simp [hg], hk⟩
  · rename_i g hg
    simp only [hg]
    split at hk
    · cases hk
    · rename_i t ht
      simp only [ht, Option.bind_some]
      split at hk
      · rename_i hs; exact ⟨false, fun n => by simp [hs], hk⟩
      · rename_i hne
        obtain ⟨b, h1, hk⟩ := boolSK_ok' hk
        have h1 : boolT (slot s t) = some b := by rw [show slot s t = .r (.b b) from h1]; rfl
        have e : ∀ n, (match slot s t with
            | .tp true [] => some false
            | x => (boolT x).map fun x => match g.2 with
              | true => x
              | false => (Rn P H lv n).A.bn x) = some (match g.2 with | true => b | false => !b) := by
          intro n
          split
          · exact absurd ‹_› hne
          · rw [h1]
            cases g.2 <;> rfl
        refine ⟨_, e, ?_⟩
        cases hg2 : g.2 with
        | true => simpa [hg2] using hk
        | false =>
          simp only [hg2] at hk
          cases b <;> exact hk
theorem Rn_evOp {n m : Nat} (h : n ≤ m) {s : List T} {o : Oper} {e : Eff} (he : evOp (Rn P H lv n) s o = some e) : evOp (Rn P H lv m) s o = some e := evOp_le (runF_le n m h) he
theorem regK_ok (h : EkOK P H lv E) {all : List Oper} : ∀ (ops : List Oper) (s : List T) (k : List T → Option β) (r : β), regK E all ops s k = some r → ∃ n s', evR (Rn P H lv n) all ops s = some s' ∧ k s' = some r
  | [], s, k, r, hk => ⟨0, s, rfl, hk⟩
  | o :: ops, s, k, r, hk => by
    unfold regK at hk
    simp only [fcTs_id] at hk
    obtain ⟨b, h1, hk⟩ := wantsK_ok h hk
    cases b with
    | true =>
      obtain ⟨n1, e, h2, hk⟩ := opK_ok h hk
      obtain ⟨n2, s', h3, hk⟩ := regK_ok h ops e.1 k r hk
      refine ⟨max n1 n2, s', ?_, hk⟩
      simp only [evR, h1, Option.bind_some]
      rw [Rn_evOp (Nat.le_max_left n1 n2) h2]
      simp only [Option.bind_some]
      exact evR_le (runF_le _ _ (Nat.le_max_right n1 n2)) ops e.1 s' h3
    | false =>
      obtain ⟨n2, s', h3, hk⟩ := regK_ok h ops _ k r hk
      exact ⟨n2, s', by simp only [evR, h1, Option.bind_some]; exact h3, hk⟩
theorem setG_same {all : List Oper} {o : Oper} {s : List T} {p : Nat → Bool} : setG all o s (keepL p 0 s) = s := by
  unfold setG
  split
  · rfl
  · split
    · rfl
    · rename_i t ht
      split
      · rename_i x hx
        split
        · rename_i v
          rw [keepL_slot] at hx
          split at hx
          · exact set_slot_same hx (by simp)
          · cases hx
        · rfl
      · rfl
theorem drawK_ok (h : EkOK P H lv E) {all : List Oper} {bf : List Nat} {pw : List (Nat × List Nat)} : ∀ (ops : List Oper) (j : Nat) (ws : List (Nat × List Nat)) (hs : List (List T)) (s : List T) (k : List T → Option β) (r : β), drawK E all bf pw ops j ws hs s k = some r →
    ∃ n s', evD (Rn P H lv n) all bf pw ops j ws hs s = some s' ∧ k s' = some r
  | [], j, ws, hs, s, k, r, hk => ⟨0, s, rfl, hk⟩
  | o :: ops, j, ws, hs, s, k, r, hk => by
    unfold drawK at hk
    simp only [fcTs_id] at hk
    generalize hm : (dsts bf all j ++ (List.flatMap (·.2) (List.filter (fun x => !ord bf x.1 j) ws) ++ laterW bf pw j) ++ refs (dsts bf all j ++ (List.flatMap (·.2) (List.filter (fun x => !ord bf x.1 j) ws) ++ laterW bf pw j)) 0 s ++
      refs (dsts bf all j ++ (List.flatMap (·.2) (List.filter (fun x => !ord bf x.1 j) ws) ++ laterW bf pw j) ++ refs (dsts bf all j ++ (List.flatMap (·.2) (List.filter (fun x => !ord bf x.1 j) ws) ++ laterW bf pw j)) 0 s) 0 s) = m at hk
    have step : ∀ n, evD (Rn P H lv n) all bf pw (o :: ops) j ws hs s = (match decide (bf.getD j 0 < 2 ^ j) && (refs m 0 s).all fun x => m.contains x with
      | false => none
      | true => (wants (Rn P H lv n) all (keepL (fun x => !m.contains x) 0 s) o).bind fun b => match b with
        | true => (evOp (Rn P H lv n) (keepL (fun x => !m.contains x) 0 s) o).bind fun e =>
          match narrow o e s with
          | true => o.dst.bind fun d => (match !((List.filter (fun x => !ord bf x.1 j) ws).any fun x => rootsIn x.2 (slot e.1 d)) && !m.contains d with
              | true => evD (Rn P H lv n) all bf pw ops (j + 1) ws (s :: hs) (s.set d (slot e.1 d))
              | false => none)
          | false => (match wideB bf pw j (List.filter (fun x => !ord bf x.1 j) ws) hs m e && !(e.2.any (m.contains ·)) && !(m.any fun x => rootsIn e.2 (slot s x)) && !(o.dst.any (m.contains ·)) with
              | true => evD (Rn P H lv n) all bf pw ops (j + 1) ((j, e.2) :: ws) (s :: hs) (mixL e.2 0 e.1 s)
              | false => none)
        | false => (match o.dst with
          | some d => (match owner (slot s d) || m.contains d with
            | false => evD (Rn P H lv n) all bf pw ops (j + 1) ws (s :: hs) (s.set d (.tp true []))
            | true => none)
          | none => evD (Rn P H lv n) all bf pw ops (j + 1) ws (s :: hs) s)) := by
      intro n
      rw [← hm]
      rfl
    split at hk
    · cases hk
    · rename_i hchk
      obtain ⟨b, h1, hk⟩ := wantsK_ok h hk
      simp only [setG_same] at hk
      cases b with
      | true =>
        obtain ⟨n1, e, h2, hk⟩ := opK_ok h hk
        split at hk
        · rename_i hn
          split at hk
          · cases hk
          · rename_i d hd
            split at hk
            · rename_i hok
              obtain ⟨n2, s', h3, hk⟩ := drawK_ok h ops _ _ _ _ k r hk
              refine ⟨max n1 n2, s', ?_, hk⟩
              rw [step, hchk]
              simp only [h1, Option.bind_some]
              rw [Rn_evOp (Nat.le_max_left n1 n2) h2]
              simp only [Option.bind_some, hd]
              rw [hn, hok]
              exact evD_le (runF_le _ _ (Nat.le_max_right n1 n2)) ops _ _ _ _ s' h3
            · cases hk
        · rename_i hn
          split at hk
          · rename_i hok
            obtain ⟨n2, s', h3, hk⟩ := drawK_ok h ops _ _ _ _ k r hk
            refine ⟨max n1 n2, s', ?_, hk⟩
            rw [step, hchk]
            simp only [h1, Option.bind_some]
            rw [Rn_evOp (Nat.le_max_left n1 n2) h2]
            simp only [Option.bind_some]
            rw [hn, hok]
            exact evD_le (runF_le _ _ (Nat.le_max_right n1 n2)) ops _ _ _ _ s' h3
          · cases hk
      | false =>
        simp only at hk
        split at hk
        · rename_i d hd
          split at hk
          · rename_i hok
            obtain ⟨n2, s', h3, hk⟩ := drawK_ok h ops _ _ _ _ k r hk
            refine ⟨n2, s', ?_, hk⟩
            rw [step, hchk]
            simp only [h1, Option.bind_some, hd, hok]
            exact h3
          · cases hk
        · rename_i hd
          obtain ⟨n2, s', h3, hk⟩ := drawK_ok h ops _ _ _ _ k r hk
          refine ⟨n2, s', ?_, hk⟩
          rw [step, hchk]
          simp only [h1, Option.bind_some, hd]
          exact h3
theorem takeOver_en {A : Pr} {ti : TypeId → Option TI} {pt : Nat → Option (List Bool × List Bool)} {c c' : CallF} {l l' : LpFn} : takeOver (mkE A ti c l pt) = takeOver (mkE A ti c' l' pt) := by kernel_rfl
theorem regionK_ok (h : EkOK P H lv E) {id : Nat} {ops : Array Oper} {d : Bool} {s : List T} {k : List T → Option β} {r : β} (hk : regionK E id ops d s k = some r) : ∃ n s', evReg (Rn P H lv n) id ops d s = some s' ∧ k s' = some r := by
  unfold regionK at hk
  simp only [fcTs_id] at hk
  rw [h.base] at hk
  unfold evReg
  cases d with
  | false =>
    obtain ⟨n, s', h1, hk⟩ := regK_ok h _ _ _ _ hk
    refine ⟨n, _, ?_, hk⟩
    simp only [h1, Option.map_some, Option.some.injEq]
    rw [Rn, takeOver_en (A := re) (ti := tiOf P) (c' := fun _ _ => none) (l' := fun _ _ => none)]
  | true =>
    have hpt : ∀ n, (Rn P H lv n).pt = E.pt := fun n => h.pt.symm
    have hk : drawK E ops.toList (CheckFast.beforeL ops.toList 0 []) (pwOf E.pt id ops.size) ops.toList 0 [] [] s (fun s' => k (takeOver (mkE re (tiOf P) (fun _ _ => none) (fun _ _ => none) lv.pt) s' ops.toList)) = some r := by
      cases hp : pwOf E.pt id ops.size with
      | nil => rw [hp] at hk; exact hk
      | cons x l => rw [hp] at hk; exact hk
    obtain ⟨n, s', h1, hk⟩ := drawK_ok h _ _ _ _ _ _ _ hk
    refine ⟨n, _, ?_, hk⟩
    simp only [hpt, h1, Option.map_some, Option.some.injEq]
    rw [Rn, takeOver_en (A := re) (ti := tiOf P) (c' := fun _ _ => none) (l' := fun _ _ => none)]
theorem Rn_ev {n m : Nat} (h : n ≤ m) {c : Code} {s : List T} {r : Ex × List T} (he : ev (Rn P H lv n) c s = some r) : ev (Rn P H lv m) c s = some r :=
  ev_le (runF_le n m h) (lpF_le (runF_le n m h) lv n m h) c s r he
theorem evK_ok (h : EkOK P H lv E) : ∀ (c : Code), (∀ x ∈ cutsC lv.pt c, CutOK P H lv E x) → ∀ (s : List T) (k : Ex → List T → Option β) (r : β), evK E c s k = some r → ∃ n e s', ev (Rn P H lv n) c s = some (e, s') ∧ k e s' = some r := by
  intro c
  induction c with
  | skip => intro _ s k r hk; exact ⟨0, .nm, s, rfl, hk⟩
  | ret => intro _ s k r hk; exact ⟨0, .rt, s, rfl, hk⟩
  | exit n => intro _ s k r hk; exact ⟨0, .ex n, s, rfl, hk⟩
  | region id ops d =>
    intro _ s k r hk
    obtain ⟨n, s', h1, hk⟩ := regionK_ok h hk
    exact ⟨n, .nm, s', by simp only [ev, h1, Option.map_some], hk⟩
  | seq x y ihx ihy =>
    intro hc s k r hk
    simp only [cutsC, List.mem_append] at hc
    obtain ⟨n1, e, s1, h1, hk⟩ := ihx (fun z hz => hc z (.inl hz)) s _ r hk
    cases e with
    | nm =>
      simp only [h.pt] at hk
      have hpt : ∀ n, (Rn P H lv n).pt = lv.pt := fun _ => rfl
      cases hp : lv.pt (firstReg y) with
      | none =>
        simp only [hp] at hk
        obtain ⟨n2, e2, s2, h2, hk⟩ := ihy (fun z hz => hc z (.inr (by rw [hp]; exact hz))) s1 k r hk
        refine ⟨max n1 n2, e2, s2, ?_, hk⟩
        simp only [ev]
        rw [Rn_ev (Nat.le_max_left n1 n2) h1]
        simp only [Option.bind_some, hpt, hp]
        exact Rn_ev (Nat.le_max_right n1 n2) h2
      | some L =>
        simp only [hp, fcTs_id] at hk
        have hj : CutOK P H lv E (.pt y) := hc _ (.inr (by rw [hp]; simp))
        obtain ⟨n2, e2, s2, h2, hk⟩ := hj _ _ _ hk
        refine ⟨max n1 n2, e2, clean L.2 s2, ?_, by simpa only [ptEnd, hp] using hk⟩
        simp only [ev]
        rw [Rn_ev (Nat.le_max_left n1 n2) h1]
        simp only [Option.bind_some, hpt, hp]
        rw [Rn_ev (Nat.le_max_right n1 n2) h2]
        rfl
    | ex m => exact ⟨n1, .ex m, s1, by simp only [ev, h1, Option.bind_some], hk⟩
    | rt => exact ⟨n1, .rt, s1, by simp only [ev, h1, Option.bind_some], hk⟩
  | cond t x y ihx ihy =>
    intro hc s k r hk
    simp only [cutsC, List.mem_append] at hc
    obtain ⟨b, h1, hk⟩ := boolSK_ok hk
    cases b with
    | true =>
      obtain ⟨n, e, s', h2, hk⟩ := ihx (fun z hz => hc z (.inl hz)) s k r hk
      exact ⟨n, e, s', by simp only [ev, h1, Option.bind_some]; exact h2, hk⟩
    | false =>
      obtain ⟨n, e, s', h2, hk⟩ := ihy (fun z hz => hc z (.inr hz)) s k r hk
      exact ⟨n, e, s', by simp only [ev, h1, Option.bind_some]; exact h2, hk⟩
  | block n x ihx =>
    intro hc s k r hk
    obtain ⟨n1, e, s1, h1, hk⟩ := ihx hc s _ r hk
    cases e with
    | nm => exact ⟨n1, .nm, s1, by simp only [ev, h1, Option.map_some], hk⟩
    | rt => exact ⟨n1, .rt, s1, by simp only [ev, h1, Option.map_some], hk⟩
    | ex m =>
      simp only at hk
      split at hk
      · rename_i hm; exact ⟨n1, .nm, s1, by simp only [ev, h1, Option.map_some, hm], hk⟩
      · rename_i hm; exact ⟨n1, .ex m, s1, by simp only [ev, h1, Option.map_some, hm], hk⟩
  | loop x ihx =>
    intro hc s k r hk
    have hj : CutOK P H lv E (.lp x) := hc _ (by simp [cutsC])
    obtain ⟨n, e, s', h1, hk⟩ := hj _ _ _ hk
    exact ⟨n, e, s', h1, hk⟩
  | _ => intro _ s k r hk; simp [evK] at hk
theorem loop_step (h : EkOK P H lv E) {x : Code} (hc : CutsOK P H lv E (cutsC lv.pt x)) {s : List T} {kk : Ex → List T → Option β} {r : β} {Kn : List T → Option β}
    (hn : ∀ s', Kn s' = some r → ∃ n e s2, lpF P re (runF P re H n) lv n x s' = some (e, s2) ∧ kk e s2 = some r)
    (hk : evK E x (clean (lv.lp (firstReg x)).1 s) (fun e s' => match e with
      | .nm => Kn s'
      | .ex m => kk (.ex m) (clean (lv.lp (firstReg x)).2 s')
      | .rt => kk .rt (clean (lv.lp (firstReg x)).2 s')) = some r) :
    ∃ n e s2, lpF P re (runF P re H n) lv n x s = some (e, s2) ∧ kk e s2 = some r := by
  obtain ⟨n1, e, s1, h1, hk⟩ := evK_ok h x hc.mem _ _ _ hk
  cases e with
  | nm =>
    obtain ⟨n2, e2, s2, h2, hk⟩ := hn s1 hk
    refine ⟨max n1 n2 + 1, e2, s2, ?_, hk⟩
    simp only [lpF]
    have hle : LeC (runF P re H (max n1 n2)) (runF P re H (max n1 n2 + 1)) := runF_le _ _ (Nat.le_succ _)
    have a1 : ev (envOf P re (runF P re H (max n1 n2 + 1)) (lpF P re (runF P re H (max n1 n2 + 1)) lv (max n1 n2)) lv.pt) x (clean (lv.lp (firstReg x)).1 s) = some (.nm, s1) := by
      have b1 := Rn_ev (Nat.le_max_left n1 n2) h1
      exact ev_le (A := re) (ti := tiOf P) hle (lpF_le hle lv _ _ (Nat.le_refl _)) x _ _ b1
    rw [a1]
    simp only [Option.bind_some]
    have hle2 : LeC (runF P re H n2) (runF P re H (max n1 n2 + 1)) := runF_le _ _ (by omega)
    exact lpF_le hle2 lv n2 (max n1 n2) (Nat.le_max_right n1 n2) _ _ _ h2
  | ex m =>
    refine ⟨n1 + 1, .ex m, _, ?_, hk⟩
    simp only [lpF]
    have hle : LeC (runF P re H n1) (runF P re H (n1 + 1)) := runF_le _ _ (Nat.le_succ _)
    have a1 : ev (envOf P re (runF P re H (n1 + 1)) (lpF P re (runF P re H (n1 + 1)) lv n1) lv.pt) x (clean (lv.lp (firstReg x)).1 s) = some (.ex m, s1) :=
      ev_le (A := re) (ti := tiOf P) hle (lpF_le hle lv _ _ (Nat.le_refl _)) x _ _ h1
    rw [a1]; rfl
  | rt =>
    refine ⟨n1 + 1, .rt, _, ?_, hk⟩
    simp only [lpF]
    have hle : LeC (runF P re H n1) (runF P re H (n1 + 1)) := runF_le _ _ (Nat.le_succ _)
    have a1 : ev (envOf P re (runF P re H (n1 + 1)) (lpF P re (runF P re H (n1 + 1)) lv n1) lv.pt) x (clean (lv.lp (firstReg x)).1 s) = some (.rt, s1) :=
      ev_le (A := re) (ti := tiOf P) hle (lpF_le hle lv _ _ (Nat.le_refl _)) x _ _ h1
    rw [a1]; rfl
def Sem (P : Program) (H : Hints) (f : FuncId) (args : List T) (res : T × List (List T)) : Prop := ∃ n, runF P re H n f args = some res
theorem bodyK_ok {f : FuncId} {fn : Func} (hf : P.funcs[f]? = some fn) (h : EkOK P H (H f) E) (hcut : ∀ c, fn.body = some c → CutsOK P H (H f) E (cutsC (H f).pt c)) {args : List T} {k : T → List (List T) → Option β} {r : β} (hk : bodyK E fn args k = some r) : ∃ res, Sem P H f args res ∧ k res.1 res.2 = some r := by
  unfold bodyK at hk
  split at hk
  · cases hk
  · rename_i c hc
    split at hk
    · cases hk
    · rename_i hchk
      obtain ⟨n, e, s, h1, hk⟩ := evK_ok h c (hcut c hc).mem _ _ _ hk
      rw [h.base] at hk
      have hne : ∀ m, e ≠ .ex m := fun m he => by subst he; cases hk
      have hk2 : (match resTs (mkE re (tiOf P) (fun _ _ => none) (fun _ _ => none) (H f).pt) s fn.results.toList with
        | none => none
        | some ts => match outB (mkE re (tiOf P) (fun _ _ => none) (fun _ _ => none) (H f).pt) 0 args (s ++ ts.map gOf) with
          | none => none
          | some s2 => match outGs (mkE re (tiOf P) (fun _ _ => none) (fun _ _ => none) (H f).pt) ts.length s.length s2 with
            | none => none
            | some s3 => match readG s3 s.length ts with
              | none => none
              | some rs => match readB s3 0 args with
                | none => none
                | some bs => k (tup rs) bs) = some r := by
        cases e with
        | nm => exact hk
        | rt => exact hk
        | ex m => exact absurd rfl (hne m)
      split at hk2
      · cases hk2
      · rename_i ts hts
        split at hk2
        · cases hk2
        · rename_i s2 hs2
          split at hk2
          · cases hk2
          · rename_i s3 hs3
            split at hk2
            · cases hk2
            · rename_i rs hrs
              split at hk2
              · cases hk2
              · rename_i bs hbs
                refine ⟨(tup rs, bs), ⟨n + 1, ?_⟩, hk2⟩
                simp only [runF, hf, Option.bind_some]
                show bodyOf (Rn P H (H f) n) fn args = _
                rw [resTs_env (c' := runF P re H n) (l' := lpF P re (runF P re H n) (H f) n)] at hts
                rw [outB_en (c' := runF P re H n) (l' := lpF P re (runF P re H n) (H f) n)] at hs2
                rw [outGs_en (c' := runF P re H n) (l' := lpF P re (runF P re H n) (H f) n)] at hs3
                unfold bodyOf
                simp only [hc]
                rw [hchk]
                simp only [h1, Option.bind_some]
                have fin : ((resTs (Rn P H (H f) n) s fn.results.toList).bind fun ts =>
                    (outB (Rn P H (H f) n) 0 args (s ++ ts.map gOf)).bind fun s2 => (outGs (Rn P H (H f) n) ts.length s.length s2).bind fun s3 =>
                      (readG s3 s.length ts).bind fun rs => (readB s3 0 args).map fun bs => (tup rs, bs)) = some (tup rs, bs) := by
                  unfold Rn
                  simp only [hts, hs2, hs3, hrs, hbs, Option.bind_some, Option.map_some]
                cases e with
                | nm => exact fin
                | rt => exact fin
                | ex m => exact absurd rfl (hne m)
end
end Go.Os
set_option linter.unusedVariables false
namespace Go.Os
section
variable {β : Type} {P : Program} {H : Hints} {lv : FH}
def dsp {α γ : Type} : List (Nat × (α → Option (γ → Option β))) → Nat → α → γ → Option β
  | [], _, _, _ => none
  | p :: l, id, a, k => match p.1 == id with
    | true => (match p.2 a with
      | some h => h k
      | none => dsp l id a k)
    | false => dsp l id a k
theorem dsp_ok {α γ : Type} {id : Nat} {a : α} {k : γ} {r : β} : ∀ {tbl : List (Nat × (α → Option (γ → Option β)))}, dsp tbl id a k = some r → ∃ p ∈ tbl, p.1 = id ∧ ∃ h, p.2 a = some h ∧ h k = some r
  | [], h => by cases h
  | p :: l, h => by
    unfold dsp at h
    have rest : dsp l id a k = some r → ∃ p' ∈ p :: l, p'.1 = id ∧ ∃ h, p'.2 a = some h ∧ h k = some r := fun h => by
      obtain ⟨p', hp, h⟩ := dsp_ok h
      exact ⟨p', List.mem_cons_of_mem _ hp, h⟩
    split at h
    · rename_i hid
      split at h
      · rename_i g hg
        exact ⟨p, List.mem_cons_self, by simpa using hid, g, hg, h⟩
      · exact rest h
    · exact rest h
def shT (P : Program) (t : TypeId) : Option (List Sh) := shC P 9 t
abbrev CallM (β : Type) := List T → Option ((T → List (List T) → Option β) → Option β)
abbrev CutM (β : Type) := List T → Option ((Ex → List T → Option β) → Option β)
def Snd (P : Program) (H : Hints) (f : FuncId) (M : CallM β) : Prop :=
  ∀ a h kk r, M a = some h → h kk = some r → ∃ n res, runF P re H n f a = some res ∧ kk res.1 res.2 = some r
def SndAll (P : Program) (H : Hints) : List (Nat × CallM β) → Prop
  | [] => True
  | p :: l => Snd P H p.1 p.2 ∧ SndAll P H l
theorem SndAll.mem : ∀ {l : List (Nat × CallM β)}, SndAll P H l → ∀ p ∈ l, Snd P H p.1 p.2
  | y :: l, h, x, hx => by
    rcases List.mem_cons.1 hx with rfl | hx
    · exact h.1
    · exact SndAll.mem h.2 x hx
def SndL (P : Program) (H : Hints) (lv : FH) (x : Code) (M : CutM β) : Prop :=
  ∀ s h kk r, M s = some h → h kk = some r → ∃ n e s', lpF P re (runF P re H n) lv n x s = some (e, s') ∧ kk e s' = some r
def SndJ (P : Program) (H : Hints) (lv : FH) (y : Code) (M : CutM β) : Prop :=
  ∀ s h kk r, M s = some h → h kk = some r → ∃ n e s', ev (Rn P H lv n) y s = some (e, s') ∧ kk e (ptEnd lv.pt (firstReg y) s') = some r
abbrev mkK (P : Program) (A : Pr) (B : Pk) (C : List (Nat × CallM β)) (L : List (Nat × CutM β)) (pt : Nat → Option (List Bool × List Bool)) (J : List (Nat × CutM β)) : Ek β :=
  ⟨A, B, tiOf P, shT P, dsp C, dsp L, pt, dsp J⟩
variable {C : List (Nat × CallM β)} {L J : List (Nat × CutM β)}
theorem mkK_ok (hC : SndAll P H C) : EkOK P H lv (mkK P re rk C L lv.pt J) :=
  ⟨rfl, rfl, rfl, fun f a kk r h => by
    obtain ⟨p, hp, hid, g, hg, h⟩ := dsp_ok h
    obtain ⟨n, res, h1, h2⟩ := hC.mem p hp a g kk r hg h
    rw [hid] at h1
    exact ⟨n, res, h1, h2⟩, rfl⟩
def SndLs (P : Program) (H : Hints) (lv : FH) (x : Code) : List (Nat × CutM β) → Prop
  | [] => True
  | p :: l => SndL P H lv x p.2 ∧ SndLs P H lv x l
theorem cut_lp {E : Ek β} {x : Code} {id : Nat} {M : CutM β} (hid : firstReg x = id) (hM : SndL P H lv x M) (hE : ∀ s kk, E.lp id s kk = (match M s with | some h => h kk | none => none)) : CutOK P H lv E (.lp x) := by
  intro s kk r h
  rw [hid, hE] at h
  split at h
  · rename_i g hg; exact hM s g kk r hg h
  · cases h
theorem cut_pt {E : Ek β} {y : Code} {id : Nat} {M : CutM β} (hid : firstReg y = id) (hM : SndJ P H lv y M) (hE : ∀ s kk, E.jn id s kk = (match M s with | some h => h kk | none => none)) : CutOK P H lv E (.pt y) := by
  intro s kk r h
  rw [hid, hE] at h
  split at h
  · rename_i g hg; exact hM s g kk r hg h
  · cases h
theorem fn_ok {f : FuncId} {fn : Func} (hf : P.funcs[f]? = some fn) (hC : SndAll P H C) {spots : List Spot} (hs : (match fn.body with | none => [] | some c => cutsC (H f).pt c) = spots)
    (hcut : CutsOK P H (H f) (mkK P re rk C L (H f).pt J) spots) {args : List T} {kk : T → List (List T) → Option β} {r : β}
    (hk : bodyK (mkK P re rk C L (H f).pt J) fn args kk = some r) : ∃ n res, runF P re H n f args = some res ∧ kk res.1 res.2 = some r := by
  obtain ⟨res, ⟨n, h1⟩, h2⟩ := bodyK_ok hf (mkK_ok hC) (fun c hc => by
    have : cutsC (H f).pt c = spots := by rw [← hs, hc]
    rw [this]; exact hcut) hk
  exact ⟨n, res, h1, h2⟩
theorem closed_ok {f : FuncId} {res : T × List (List T)} {n : Nat} (hrun : runF P re H n f [] = some res) {M : CallM β} (hM : ∀ a h, M a = some h → a = [] ∧ h = fun kk => kk res.1 res.2) : Snd P H f M := by
  intro a h kk r ha hr
  obtain ⟨rfl, rfl⟩ := hM a h ha
  exact ⟨n, res, hrun, hr⟩
def yes : T → List (List T) → Option Unit := fun t bs => match t with
  | .r x => (match x with
    | .b v => (match v with
      | true => (match bs with | [] => some () | _ => none)
      | false => none)
    | _ => none)
  | _ => none
theorem yes_ok {t : T} {bs : List (List T)} (h : yes t bs = some ()) : (t, bs) = (T.r (.b true), []) := by
  unfold yes at h
  split at h
  · split at h
    · split at h
      · split at h
        · rfl
        · cases h
      · cases h
    · cases h
  · cases h
theorem law_of_snd {f : FuncId} {M : CallM Unit} (hS : Snd P H f M) {args : List T} {g : (T → List (List T) → Option Unit) → Option Unit} (hM : M args = some g) (hg : g yes = some ()) :
    ∃ n, runF P re H n f args = some (.r (.b true), []) := by
  obtain ⟨n, res, h1, h2⟩ := hS args g yes () hM hg
  exact ⟨n, by rw [h1, ← yes_ok h2]⟩
theorem reads_ok {fn : Func} (h : (fn.params.toList.all fun t => P.readableRec t && decide (t < P.types.size)) = true) : ∀ t ∈ fn.params.toList, P.readableRec t = true ∧ t < P.types.size := by
  intro t ht
  have := List.all_eq_true.1 h t ht
  simpa using this
theorem no_name {x : String} (h : (P.funcs.toList.all fun fn => !(fn.name == x)) = true) : ∀ (f : FuncId) (fn : Func), P.funcs[f]? = some fn → fn.name ≠ x := by
  intro f fn hf he
  have hm : fn ∈ P.funcs.toList := by
    obtain ⟨hlt, rfl⟩ := Array.getElem?_eq_some_iff.1 hf
    simp
  have := List.all_eq_true.1 h fn hm
  rw [he] at this
  simp at this
def atF (fn : Func) (l : List Bool) : Code := match fn.body with | some c => subC c l | none => .skip
def findC (id : Nat) : Code → Option (List Bool)
  | .loop x => match firstReg x == id with
    | true => some [false]
    | false => (findC id x).map (false :: ·)
  | .block _ x => (findC id x).map (false :: ·)
  | .seq x y => match findC id x with
    | some l => some (false :: l)
    | none => (findC id y).map (true :: ·)
  | .cond _ x y => match findC id x with
    | some l => some (false :: l)
    | none => (findC id y).map (true :: ·)
  | _ => none
def findF (fn : Func) (id : Nat) : Option (List Bool) := match fn.body with | some c => findC id c | none => none
theorem round_ok {x : Code} (hC : SndAll P H C) {spots : List Spot} (hs : cutsC lv.pt x = spots) (hcut : CutsOK P H lv (mkK P re rk C L lv.pt J) spots) {M : CutM β} (ih : SndL P H lv x M)
    {s hd : List T} (hhd : clean (lv.lp (firstReg x)).1 s = hd) {kk : Ex → List T → Option β} {r : β}
    (hk : evK (mkK P re rk C L lv.pt J) x hd (fun e s' => match e with
      | .nm => (match M s' with | some h => h kk | none => none)
      | .ex m => kk (.ex m) (clean (lv.lp (firstReg x)).2 s')
      | .rt => kk .rt (clean (lv.lp (firstReg x)).2 s')) = some r) :
    ∃ n e s', lpF P re (runF P re H n) lv n x s = some (e, s') ∧ kk e s' = some r := by
  subst hs
  refine loop_step (Kn := fun s' => match M s' with | some h => h kk | none => none) (mkK_ok hC) hcut (fun s' hk => ?_) (by rw [hhd]; exact hk)
  split at hk
  · rename_i g hg; exact ih s' g kk r hg hk
  · cases hk
theorem join_ok {y : Code} (hC : SndAll P H C) {spots : List Spot} (hs : cutsC lv.pt y = spots) (hcut : CutsOK P H lv (mkK P re rk C L lv.pt J) spots)
    {s : List T} {kk : Ex → List T → Option β} {r : β} (hk : evK (mkK P re rk C L lv.pt J) y s (fun e s' => kk e (ptEnd lv.pt (firstReg y) s')) = some r) :
    ∃ n e s', ev (Rn P H lv n) y s = some (e, s') ∧ kk e (ptEnd lv.pt (firstReg y) s') = some r := by
  subst hs
  exact evK_ok (mkK_ok hC) y hcut.mem s _ r hk
def orM (M N : CutM β) : CutM β := fun s => match M s with
  | some h => some h
  | none => N s
theorem orM_ok {y : Code} {M N : CutM β} (hM : SndJ P H lv y M) (hN : SndJ P H lv y N) : SndJ P H lv y (orM M N) := by
  intro s h kk r ha hr
  unfold orM at ha
  split at ha
  · rename_i g hg
    cases ha
    exact hM s _ kk r hg hr
  · exact hN s h kk r ha hr
theorem orL_ok {x : Code} {M N : CutM β} (hM : SndL P H lv x M) (hN : SndL P H lv x N) : SndL P H lv x (orM M N) := by
  intro s h kk r ha hr
  unfold orM at ha
  split at ha
  · rename_i g hg
    cases ha
    exact hM s _ kk r hg hr
  · exact hN s h kk r ha hr
theorem no_lp {E : Ek β} {x : Code} {id : Nat} (hid : firstReg x = id) (hE : ∀ s kk, E.lp id s kk = none) : CutOK P H lv E (.lp x) := by
  intro s kk r h
  rw [hid, hE] at h
  cases h
theorem no_pt {E : Ek β} {y : Code} {id : Nat} (hid : firstReg y = id) (hE : ∀ s kk, E.jn id s kk = none) : CutOK P H lv E (.pt y) := by
  intro s kk r h
  rw [hid, hE] at h
  cases h
def spotIds (pt : Nat → Option (List Bool × List Bool)) (c : Code) : List (Bool × Nat) := (cutsC pt c).map fun
  | .lp x => (false, firstReg x)
  | .pt y => (true, firstReg y)
def codeF (fn : Func) : Code := match fn.body with | some c => c | none => .skip
def findP (id : Nat) : Code → Option (List Bool)
  | .loop x => (findP id x).map (false :: ·)
  | .block _ x => (findP id x).map (false :: ·)
  | .seq x y => match firstReg y == id with
    | true => some [true]
    | false => match findP id x with
      | some l => some (false :: l)
      | none => (findP id y).map (true :: ·)
  | .cond _ x y => match findP id x with
    | some l => some (false :: l)
    | none => (findP id y).map (true :: ·)
  | _ => none
def findJ (fn : Func) (id : Nat) : Option (List Bool) := match fn.body with | some c => findP id c | none => none
end
end Go.Os
set_option linter.unusedVariables false
namespace Go.Os
inductive Hv where
  | i (n : Int)
  | b (x : Bool)
  | s (x : ByteArray)
  | l (x : List R)
  | n (x : Nat)
inductive PN where
  | lit (n : Nat)
  | hole
inductive PS where
  | d (o : PN)
  | e (i sz o : PN)
  | t (k : PN)
inductive PR where
  | b
  | i (k : IntKind)
  | s
  | pn | sn | fn
  | a (l : List PR)
  | ro (sz : Nat)
inductive PT where
  | us (n : Nat)
  | r (x : PR)
  | own (fl : Bool) (sz : Nat)
  | ow (sz : Nat) (l : List PT)
  | bx (l : List PT)
  | p (r : Nat) (q : List PS)
  | v (r : Nat) (q : List PS) (sz : Nat) (w : Option (PN × PN))
  | cp (l : List PR) (o : PN)
  | f (g : Nat) (l : List PT)
  | a (l : List PT)
  | tp (b : Bool) (l : List PT)
def gB (x y : Bool) : Bool := match x with
  | true => (match y with | true => true | false => false)
  | false => (match y with | true => false | false => true)
theorem gB_eq {x y : Bool} (h : gB x y = true) : x = y := by cases x <;> cases y <;> simp_all [gB]
def gN (p : PN) (x : Nat) (acc : List Hv) : Option (List Hv) := match p with
  | .lit n => (match Nat.beq n x with | true => some acc | false => none)
  | .hole => some (.n x :: acc)
def uN {α : Type} (p : PN) (hs : List Hv) (k : Nat → List Hv → α) : α := match p with
  | .lit n => k n hs
  | .hole => (match hs with
    | h :: hs => (match h with | .n x => k x hs | _ => k 0 hs)
    | [] => k 0 [])
theorem uN_ok {α : Type} {p : PN} {x : Nat} {acc hs : List Hv} (h : gN p x acc = some hs) (k : Nat → List Hv → α) : uN p hs k = k x acc := by
  cases p with
  | lit n =>
    simp only [gN] at h
    split at h
    · rename_i e
      cases h
      rw [← Nat.eq_of_beq_eq_true e]; rfl
    · cases h
  | hole => cases h; rfl
def gS (p : PS) (x : Sp) (acc : List Hv) : Option (List Hv) := match p with
  | .d o => (match x with | .d o' => gN o o' acc | _ => none)
  | .e i z o => (match x with | .e i' z' o' => (match gN o o' acc with | some a => (match gN z z' a with | some a => gN i i' a | none => none) | none => none) | _ => none)
  | .t j => (match x with | .t j' => gN j j' acc | _ => none)
def uS {α : Type} (p : PS) (hs : List Hv) (k : Sp → List Hv → α) : α := match p with
  | .d o => uN o hs fun o hs => k (.d o) hs
  | .e i z o => uN i hs fun i hs => uN z hs fun z hs => uN o hs fun o hs => k (.e i z o) hs
  | .t j => uN j hs fun j hs => k (.t j) hs
theorem uS_ok {α : Type} {p : PS} {x : Sp} {acc hs : List Hv} (h : gS p x acc = some hs) (k : Sp → List Hv → α) : uS p hs k = k x acc := by
  cases p with
  | d o =>
    cases x <;> simp only [gS, reduceCtorEq] at h
    exact uN_ok h _
  | e i z o =>
    cases x <;> simp only [gS, reduceCtorEq] at h
    split at h
    · rename_i a1 h1
      split at h
      · rename_i a2 h2
        simp only [uS]
        rw [uN_ok h, uN_ok h2, uN_ok h1]
      · cases h
    · cases h
  | t j =>
    cases x <;> simp only [gS, reduceCtorEq] at h
    exact uN_ok h _
def gSs : List PS → Pth → List Hv → Option (List Hv)
  | [], x, acc => (match x with | [] => some acc | _ => none)
  | p :: ps, x, acc => (match x with
    | y :: ys => (match gSs ps ys acc with | some a => gS p y a | none => none)
    | [] => none)
def uSs {α : Type} : List PS → List Hv → (Pth → List Hv → α) → α
  | [], hs, k => k [] hs
  | p :: ps, hs, k => uS p hs fun x hs => uSs ps hs fun xs hs => k (x :: xs) hs
theorem uSs_ok {α : Type} : ∀ {p : List PS} {x : Pth} {acc hs : List Hv}, gSs p x acc = some hs → ∀ (k : Pth → List Hv → α), uSs p hs k = k x acc
  | [], x, acc, hs, h, k => by
    cases x <;> simp only [gSs, reduceCtorEq] at h
    cases h; rfl
  | p :: ps, x, acc, hs, h, k => by
    cases x with
    | nil => simp only [gSs, reduceCtorEq] at h
    | cons y ys =>
      simp only [gSs] at h
      split at h
      · rename_i a h1
        simp only [uSs]
        rw [uS_ok h, uSs_ok h1]
      · cases h
mutual
def gR : PR → R → List Hv → Option (List Hv)
  | .b, x, acc => (match x with | .b v => some (.b v :: acc) | _ => none)
  | .i d, x, acc => (match x with | .i d' n => (match decide (d' = d) with | true => some (.i n :: acc) | false => none) | _ => none)
  | .s, x, acc => (match x with | .s v => some (.s v :: acc) | _ => none)
  | .pn, x, acc => (match x with | .pn => some acc | _ => none)
  | .sn, x, acc => (match x with | .sn => some acc | _ => none)
  | .fn, x, acc => (match x with | .fn => some acc | _ => none)
  | .a l, x, acc => (match x with | .a m => gRs l m acc | _ => none)
  | .ro z, x, acc => (match x with | .ro z' m => (match Nat.beq z z' with | true => some (.l m :: acc) | false => none) | _ => none)
  termination_by structural x => x
def gRs : List PR → List R → List Hv → Option (List Hv)
  | [], x, acc => (match x with | [] => some acc | _ => none)
  | p :: ps, x, acc => (match x with
    | y :: ys => (match gRs ps ys acc with | some a => gR p y a | none => none)
    | [] => none)
  termination_by structural x => x
end
mutual
def uR {α : Type} : PR → List Hv → (R → List Hv → α) → α
  | .b, hs, k => (match hs with | h :: hs => (match h with | .b v => k (.b v) hs | _ => k .pn hs) | [] => k .pn [])
  | .i d, hs, k => (match hs with | h :: hs => (match h with | .i n => k (.i d n) hs | _ => k .pn hs) | [] => k .pn [])
  | .s, hs, k => (match hs with | h :: hs => (match h with | .s n => k (.s n) hs | _ => k .pn hs) | [] => k .pn [])
  | .pn, hs, k => k .pn hs
  | .sn, hs, k => k .sn hs
  | .fn, hs, k => k .fn hs
  | .a l, hs, k => uRs l hs fun m hs => k (.a m) hs
  | .ro z, hs, k => (match hs with | h :: hs => (match h with | .l n => k (.ro z n) hs | _ => k .pn hs) | [] => k .pn [])
  termination_by structural x => x
def uRs {α : Type} : List PR → List Hv → (List R → List Hv → α) → α
  | [], hs, k => k [] hs
  | p :: ps, hs, k => uR p hs fun x hs => uRs ps hs fun xs hs => k (x :: xs) hs
  termination_by structural x => x
end
mutual
theorem uR_ok {α : Type} : ∀ {p : PR} {x : R} {acc hs : List Hv}, gR p x acc = some hs → ∀ (k : R → List Hv → α), uR p hs k = k x acc
  | .b, x, acc, hs, h, k => by cases x <;> simp only [gR, reduceCtorEq] at h; cases h; rfl
  | .i d, x, acc, hs, h, k => by
    cases x <;> simp only [gR, reduceCtorEq] at h
    split at h
    · rename_i e
      cases h
      have := of_decide_eq_true e
      subst this; rfl
    · cases h
  | .s, x, acc, hs, h, k => by cases x <;> simp only [gR, reduceCtorEq] at h; cases h; rfl
  | .pn, x, acc, hs, h, k => by cases x <;> simp only [gR, reduceCtorEq] at h; cases h; rfl
  | .sn, x, acc, hs, h, k => by cases x <;> simp only [gR, reduceCtorEq] at h; cases h; rfl
  | .fn, x, acc, hs, h, k => by cases x <;> simp only [gR, reduceCtorEq] at h; cases h; rfl
  | .a l, x, acc, hs, h, k => by
    cases x <;> simp only [gR, reduceCtorEq] at h
    simp only [uR]
    rw [uRs_ok h]
  | .ro z, x, acc, hs, h, k => by
    cases x <;> simp only [gR, reduceCtorEq] at h
    split at h
    · rename_i e
      cases h
      rw [← Nat.eq_of_beq_eq_true e]; rfl
    · cases h
theorem uRs_ok {α : Type} : ∀ {p : List PR} {x : List R} {acc hs : List Hv}, gRs p x acc = some hs → ∀ (k : List R → List Hv → α), uRs p hs k = k x acc
  | [], x, acc, hs, h, k => by cases x <;> simp only [gRs, reduceCtorEq] at h; cases h; rfl
  | p :: ps, x, acc, hs, h, k => by
    cases x with
    | nil => simp only [gRs, reduceCtorEq] at h
    | cons y ys =>
      simp only [gRs] at h
      split at h
      · rename_i a h1
        simp only [uRs]
        rw [uR_ok h, uRs_ok h1]
      · cases h
end
def gW (p : Option (PN × PN)) (w : Option (Nat × Nat)) (acc : List Hv) : Option (List Hv) := match p with
  | none => (match w with | none => some acc | some _ => none)
  | some p => (match w with | some w => (match gN p.2 w.2 acc with | some a => gN p.1 w.1 a | none => none) | none => none)
def uW {α : Type} (p : Option (PN × PN)) (hs : List Hv) (k : Option (Nat × Nat) → List Hv → α) : α := match p with
  | none => k none hs
  | some p => uN p.1 hs fun x hs => uN p.2 hs fun y hs => k (some (x, y)) hs
theorem uW_ok {α : Type} {p : Option (PN × PN)} {x : Option (Nat × Nat)} {acc hs : List Hv} (h : gW p x acc = some hs) (k : Option (Nat × Nat) → List Hv → α) : uW p hs k = k x acc := by
  cases p with
  | none => cases x <;> simp only [gW, reduceCtorEq] at h; cases h; rfl
  | some p =>
    cases x with
    | none => simp only [gW, reduceCtorEq] at h
    | some x =>
      simp only [gW] at h
      split at h
      · rename_i a h1
        simp only [uW]
        rw [uN_ok h, uN_ok h1]
      · cases h
def stripU : Nat → List T → Option (List T)
  | 0, l => some l
  | n + 1, l => (match l with
    | t :: l => (match t with | .u => stripU n l | _ => none)
    | [] => none)
def repU {α : Type} : Nat → List T → (List T → α) → α
  | 0, l, k => k l
  | n + 1, l, k => repU n (.u :: l) k
theorem repU_eq {α : Type} (k : List T → α) : ∀ (n : Nat) (l : List T), repU n l k = k (List.replicate n .u ++ l)
  | 0, l => rfl
  | n + 1, l => by
    rw [repU, repU_eq k n (.u :: l)]
    congr 1
    rw [List.replicate_succ', List.append_assoc]; rfl
theorem stripU_ok : ∀ {n : Nat} {l m : List T}, stripU n l = some m → l = List.replicate n .u ++ m
  | 0, l, m, h => by cases h; rfl
  | n + 1, l, m, h => by
    simp only [stripU] at h
    split at h
    · split at h
      · rw [stripU_ok h]; rfl
      · cases h
    · cases h
mutual
def gT : PT → T → List Hv → Option (List Hv)
  | .us _, _, _ => none
  | .r p, x, acc => (match x with | .r y => gR p y acc | _ => none)
  | .own fl z, x, acc => (match x with | .own fl' z' m => (match gB fl fl' with | true => (match Nat.beq z z' with | true => some (.l m :: acc) | false => none) | false => none) | _ => none)
  | .ow z l, x, acc => (match x with | .ow z' m => (match Nat.beq z z' with | true => gTs l m acc | false => none) | _ => none)
  | .bx l, x, acc => (match x with | .bx m => gTs l m acc | _ => none)
  | .p r q, x, acc => (match x with | .p r' q' => (match Nat.beq r r' with | true => gSs q q' acc | false => none) | _ => none)
  | .v r q z w, x, acc => (match x with | .v r' q' z' w' => (match Nat.beq r r' with | true => (match Nat.beq z z' with | true => (match gW w w' acc with | some a => gSs q q' a | none => none) | false => none) | false => none) | _ => none)
  | .cp l o, x, acc => (match x with | .cp m o' => (match gN o o' acc with | some a => gRs l m a | none => none) | _ => none)
  | .f g l, x, acc => (match x with | .f g' m => (match Nat.beq g g' with | true => gTs l m acc | false => none) | _ => none)
  | .a l, x, acc => (match x with | .a m => gTs l m acc | _ => none)
  | .tp b l, x, acc => (match x with | .tp b' m => (match gB b b' with | true => gTs l m acc | false => none) | _ => none)
  termination_by structural x => x
def gTs : List PT → List T → List Hv → Option (List Hv)
  | [], x, acc => (match x with | [] => some acc | _ => none)
  | p :: ps, x, acc => (match p with
    | .us n => (match stripU n x with | some y => gTs ps y acc | none => none)
    | _ => (match x with
      | y :: ys => (match gTs ps ys acc with | some a => gT p y a | none => none)
      | [] => none))
  termination_by structural x => x
end
mutual
def uT {α : Type} : PT → List Hv → (T → List Hv → α) → α
  | .us _, hs, k => k .u hs
  | .r p, hs, k => uR p hs fun x hs => k (.r x) hs
  | .own fl z, hs, k => (match hs with | h :: hs => (match h with | .l m => k (.own fl z m) hs | _ => k .u hs) | [] => k .u [])
  | .ow z l, hs, k => uTs l hs fun m hs => k (.ow z m) hs
  | .bx l, hs, k => uTs l hs fun m hs => k (.bx m) hs
  | .p r q, hs, k => uSs q hs fun q hs => k (.p r q) hs
  | .v r q z w, hs, k => uSs q hs fun q hs => uW w hs fun w hs => k (.v r q z w) hs
  | .cp l o, hs, k => uRs l hs fun m hs => uN o hs fun o hs => k (.cp m o) hs
  | .f g l, hs, k => uTs l hs fun m hs => k (.f g m) hs
  | .a l, hs, k => uTs l hs fun m hs => k (.a m) hs
  | .tp b l, hs, k => uTs l hs fun m hs => k (.tp b m) hs
  termination_by structural x => x
def uTs {α : Type} : List PT → List Hv → (List T → List Hv → α) → α
  | [], hs, k => k [] hs
  | p :: ps, hs, k => (match p with
    | .us n => uTs ps hs fun xs hs => repU n xs fun l => k l hs
    | _ => uT p hs fun x hs => uTs ps hs fun xs hs => k (x :: xs) hs)
  termination_by structural x => x
end
mutual
theorem uT_ok {α : Type} : ∀ {p : PT} {x : T} {acc hs : List Hv}, gT p x acc = some hs → ∀ (k : T → List Hv → α), uT p hs k = k x acc
  | .us _, x, acc, hs, h, k => by simp only [gT, reduceCtorEq] at h
  | .r p, x, acc, hs, h, k => by
    cases x <;> simp only [gT, reduceCtorEq] at h
    simp only [uT]; rw [uR_ok h]
  | .own fl z, x, acc, hs, h, k => by
    cases x <;> simp only [gT, reduceCtorEq] at h
    split at h
    · rename_i e1
      split at h
      · rename_i e2
        cases h
        rw [← gB_eq e1, ← Nat.eq_of_beq_eq_true e2]; rfl
      · cases h
    · cases h
  | .ow z l, x, acc, hs, h, k => by
    cases x <;> simp only [gT, reduceCtorEq] at h
    split at h
    · rename_i e
      simp only [uT]; rw [uTs_ok h, Nat.eq_of_beq_eq_true e]
    · cases h
  | .bx l, x, acc, hs, h, k => by
    cases x <;> simp only [gT, reduceCtorEq] at h
    simp only [uT]; rw [uTs_ok h]
  | .p r q, x, acc, hs, h, k => by
    cases x <;> simp only [gT, reduceCtorEq] at h
    split at h
    · rename_i e
      simp only [uT]; rw [uSs_ok h, Nat.eq_of_beq_eq_true e]
    · cases h
  | .v r q z w, x, acc, hs, h, k => by
    cases x <;> simp only [gT, reduceCtorEq] at h
    split at h
    · rename_i e1
      split at h
      · rename_i e2
        split at h
        · rename_i a h1
          simp only [uT]; rw [uSs_ok h, uW_ok h1, Nat.eq_of_beq_eq_true e1, Nat.eq_of_beq_eq_true e2]
        · cases h
      · cases h
    · cases h
  | .cp l o, x, acc, hs, h, k => by
    cases x <;> simp only [gT, reduceCtorEq] at h
    split at h
    · rename_i a h1
      simp only [uT]; rw [uRs_ok h, uN_ok h1]
    · cases h
  | .f g l, x, acc, hs, h, k => by
    cases x <;> simp only [gT, reduceCtorEq] at h
    split at h
    · rename_i e
      simp only [uT]; rw [uTs_ok h, Nat.eq_of_beq_eq_true e]
    · cases h
  | .a l, x, acc, hs, h, k => by
    cases x <;> simp only [gT, reduceCtorEq] at h
    simp only [uT]; rw [uTs_ok h]
  | .tp b l, x, acc, hs, h, k => by
    cases x <;> simp only [gT, reduceCtorEq] at h
    split at h
    · rename_i e
      simp only [uT]; rw [uTs_ok h, gB_eq e]
    · cases h
theorem uTs_ok {α : Type} : ∀ {p : List PT} {x : List T} {acc hs : List Hv}, gTs p x acc = some hs → ∀ (k : List T → List Hv → α), uTs p hs k = k x acc
  | [], x, acc, hs, h, k => by cases x <;> simp only [gTs, reduceCtorEq] at h; cases h; simp only [uTs]
  | p :: ps, x, acc, hs, h, k => by
    have two : ∀ y ys a, x = y :: ys → gTs ps ys acc = some a → gT p y a = some hs → (uT p hs fun x hs => uTs ps hs fun xs hs => k (x :: xs) hs) = k x acc := fun y ys a hx h1 h2 => by
      rw [uT_ok h2, uTs_ok h1, hx]
    cases p with
    | us n =>
      simp only [gTs] at h
      split at h
      · rename_i y hy
        simp only [uTs]
        rw [uTs_ok h, repU_eq, ← stripU_ok hy]
      · cases h
    | _ =>
      simp only [gTs] at h
      simp only [uTs]
      split at h
      · split at h
        · rename_i h1
          exact two _ _ _ rfl h1 h
        · cases h
      · cases h
end
theorem via_pat {α : Type} {p : List PT} {s : List T} {hs : List Hv} {k : List T → List Hv → α} {r : α} (h : gTs p s [] = some hs) (e : uTs p hs k = r) : k s [] = r :=
  (uTs_ok h k).symm.trans e
end Go.Os
