/-
  The evaluator of the model's code over pure trees, and its soundness: part C of 8.
-/
import Derived.Test.YthlnfebecphcmaaGreatOsB
import Derived.Laws.Tables
set_option linter.unusedVariables false
set_option linter.unusedSimpArgs false
set_option linter.unusedVariables false
namespace Go.Os
section
variable {w : World} {RO : Nat → Prop} {Ls : List Ly}
theorem un_ag {cs : List Ly} : cs ≠ [.ag cs] := by
  intro h
  have := congrArg (fun l : List Ly => SizeOf.sizeOf l) h
  simp at this
  omega
theorem setLy_un {L : Ly} {q : Pth} {N : Ly} (hL : L.un = [L]) (hN : N.un = [N]) : (setLy L q N).un = [setLy L q N] := by
  cases q with
  | nil => cases L <;> exact hN
  | cons x q =>
    cases L with
    | ag cs => exact absurd hL un_ag
    | no => cases x <;> rfl
    | nl => cases x <;> rfl
    | bl g off n cap cs => cases x <;> rfl
    | fz g off n cap => cases x <;> rfl
theorem TCC_g {g : Nat} {c : T} {f : Ly → Ly} : ∀ {l : List T} {off k : Nat} {cs : List Ly} {x : T} {Lk : Ly}, l[k]? = some x → cs[k]? = some Lk →
    (∀ v, TC w RO Ls x [v] Lk → TC w RO Ls c [v] (f Lk)) → TCC w RO Ls g off l cs → TCC w RO Ls g off (l.set k c) (cs.modify k f)
  | [], _, _, _, _, _, h, _, _, _ => by simp at h
  | t :: l, off, k, cs, x, Lk, hx, hL, hf, h => by
    obtain ⟨v, L, cs', he, h0, h1, h2⟩ := h
    subst he
    cases k with
    | zero =>
      simp at hx hL; subst hx; subst hL
      exact ⟨v, f L, cs', by simp, h0, hf v h1, h2⟩
    | succ k => exact ⟨v, L, cs'.modify k f, by simp, h0, h1, TCC_g (by simpa using hx) (by simpa using hL) hf h2⟩
theorem TCL_g {c : T} {f : Ly → Ly} : ∀ {l : List T} {vs : List Value} {k : Nat} {cs : List Ly} {x : T} {Lk : Ly}, l[k]? = some x → cs[k]? = some Lk →
    (∀ v, TC w RO Ls x [v] Lk → TC w RO Ls c [v] (f Lk)) → TCL w RO Ls l vs cs → TCL w RO Ls (l.set k c) vs (cs.modify k f)
  | [], _, _, _, _, _, h, _, _, _ => by simp at h
  | t :: l, vs, k, cs, x, Lk, hx, hL, hf, h => by
    obtain ⟨v, vs', L, cs', hv, he, h1, h2⟩ := h
    subst he
    cases k with
    | zero =>
      simp at hx hL; subst hx; subst hL
      exact ⟨v, vs', f L, cs', hv, by simp, hf v h1, h2⟩
    | succ k => exact ⟨v, vs', L, cs'.modify k f, hv, by simp, h1, TCL_g (by simpa using hx) (by simpa using hL) hf h2⟩
theorem TCE_g {g : Nat} {sz : Nat} {c : T} {f : Ly → Ly} : ∀ {l : List T} {off i k : Nat} {cs : List Ly} {x y : T} {Lk : Ly},
    l[i]? = some x → x.cells[k]? = some y → k < sz → cs[i * sz + k]? = some Lk → (Lk.un = [Lk] → (f Lk).un = [f Lk]) →
    (∀ v, TC w RO Ls y [v] Lk → TC w RO Ls c [v] (f Lk)) → TCE w RO Ls sz g off l cs → TCE w RO Ls sz g off (l.set i (x.setCell k c)) (cs.modify (i * sz + k) f)
  | [], _, _, _, _, _, _, _, h, _, _, _, _, _, _ => by simp at h
  | t :: l, off, i, k, cs, x, y, Lk, hx, hy, hk, hL, hfu, hf, h => by
    obtain ⟨vs, L, cs', h1, h2, he, h3, h4, h5⟩ := h
    subst he
    cases i with
    | zero =>
      simp only [List.getElem?_cons_zero, Option.some.injEq] at hx; subst hx
      rw [Nat.zero_mul, Nat.zero_add] at hL ⊢
      rw [modify_append_left _ _ _ _ (by omega)]
      have hLu : L.un[k]? = some Lk := by rwa [List.getElem?_append_left (by omega)] at hL
      rcases TC_elem h4 (by rw [h1, h2]) hy with ⟨l', rfl⟩ | ⟨rfl, rfl, hu, ⟨v, hv⟩, hs⟩
      · obtain ⟨cs1, hL1, h6⟩ := h4
        subst hL1
        simp only [Ly.un] at hLu h2
        have h7 := TCL_g hy hLu hf h6
        exact ⟨vs, .ag (cs1.modify k f), cs', h1, by simpa [Ly.un] using h2, rfl, h3, ⟨_, rfl, h7⟩, h5⟩
      · have hu' := hu
        rw [hu] at hLu
        simp only [List.getElem?_cons_zero, Option.some.injEq] at hLu
        subst hLu
        have hfu := hfu hu'
        refine ⟨vs, f L, cs', h1, by rw [hfu]; rw [hu] at h2; exact h2, by rw [hu]; simp [hfu], h3, ?_, h5⟩
        rw [hs, hv]; exact hf v (hv ▸ h4)
    | succ i =>
      have hidx : (i + 1) * sz + k = L.un.length + (i * sz + k) := by rw [Nat.add_mul]; omega
      rw [hidx] at hL ⊢
      rw [modify_append_right]
      rw [List.getElem?_append_right (by omega), Nat.add_sub_cancel_left] at hL
      exact ⟨vs, L, _, h1, h2, rfl, h3, h4, TCE_g (by simpa using hx) hy hk hL hfu hf h5⟩
theorem RCE_g {g sz : Nat} {x c y : R} {k : Nat} (hy : x.cells[k]? = some y) (hc : ∀ v, RC w RO y [v] → RC w RO c [v]) : ∀ {l : List R} {off i : Nat}, l[i]? = some x → RCE w RO sz g off l → RCE w RO sz g off (l.set i (x.setCell k c))
  | [], _, _, h, _ => by simp at h
  | z :: l, off, i, hi, h => by
    obtain ⟨⟨vs, h1, h2, h3⟩, h4⟩ := h
    cases i with
    | succ i => exact ⟨⟨vs, h1, h2, h3⟩, RCE_g hy hc (by simpa using hi) h4⟩
    | zero =>
      simp at hi; subst hi
      refine ⟨⟨vs, h1, h2, ?_⟩, h4⟩
      obtain ⟨v, hv, hR⟩ := RCL_get (RC_cells h3) hy
      have := RC_set h3 (k := k) (hc v hR) (List.getElem?_eq_some_iff.1 hy).1
      have e : vs.set k v = vs := by
        apply List.ext_getElem?
        intro j
        by_cases hj : j = k
        · subst hj; rw [List.getElem?_set_self (List.getElem?_eq_some_iff.1 hv).1, hv]
        · rw [List.getElem?_set_ne (Ne.symm hj)]
      rwa [e] at this
def Place (w : World) (RO : Nat → Prop) (Ls : List Ly) (L : Ly) (q : Pth) (c0 : T) (v' : Value) : Prop :=
  (∃ L', lyAt L q = some L' ∧ TC w RO Ls c0 [v'] L') ∨ (lyAt L q = none ∧ ∃ x, c0 = .r x ∧ RC w RO x [v'])
theorem gset {c : T} {N : Ly} (hN : N.un = [N]) : ∀ (q : Pth) (t : T) (vs : List Value) (L : Ly) (t' : T), q ≠ [] → TC w RO Ls t vs L → setT re t q c = some t' →
    (∀ c0 v', getT re t q = some c0 → Place w RO Ls L q c0 v' → TC w RO Ls c [v'] N) → TC w RO Ls t' vs (setLy L q N) := by
  intro q
  induction q with
  | nil => intro _ _ _ _ h; exact absurd rfl h
  | cons x q ih =>
    intro t vs L t' _ h hs hc
    have sub : ∀ x1 v1 L1 y1, TC w RO Ls x1 [v1] L1 → setT re x1 q c = some y1 → (∀ c0 v', getT re x1 q = some c0 → Place w RO Ls L1 q c0 v' → TC w RO Ls c [v'] N) → TC w RO Ls y1 [v1] (setLy L1 q N) := by
      intro x1 v1 L1 y1 hT hs1 hc1
      by_cases hq : q = []
      · subst hq
        have e : y1 = c := by cases x1 <;> simpa [setT, eq_comm] using hs1
        have e2 : setLy L1 [] N = N := by cases L1 <;> rfl
        rw [e, e2]
        exact hc1 x1 v1 (by cases x1 <;> rfl) (.inl ⟨L1, by cases L1 <;> rfl, hT⟩)
      · exact ih x1 [v1] L1 y1 hq hT hs1 hc1
    cases x with
    | d k =>
      cases t with
      | bx l =>
        obtain ⟨gb, off, cs, cur, e, hv, hL, hg, h4⟩ := h
        subst hL
        simp only [setT] at hs
        cases hl : l[k]? with
        | none => simp [hl] at hs
        | some x1 =>
          simp only [hl] at hs
          cases hx : setT re x1 q c with
          | none => simp [hx] at hs
          | some y1 =>
            simp only [hx, Option.some.injEq] at hs
            subst hs
            obtain ⟨v1, L1, hcell, hcs, hT⟩ := TCC_get h4 hl
            refine ⟨gb, off, cs.modify k fun L => setLy L q N, cur, e, hv, by simp [setLy], hg, TCC_g hl hcs (fun v hv' => ?_) h4⟩
            refine sub x1 v L1 y1 hv' hx fun c0 v' h5 h6 => hc c0 v' (by simpa [getT, hl] using h5) ?_
            rcases h6 with ⟨L', h6, h7⟩ | ⟨h6, h7⟩
            · exact .inl ⟨L', by simpa [lyAt, hcs] using h6, h7⟩
            · exact .inr ⟨by simpa [lyAt, hcs] using h6, h7⟩
      | _ => simp [setT] at hs
    | t k =>
      cases t with
      | a l =>
        obtain ⟨cs, hL, h⟩ := h
        subst hL
        simp only [setT] at hs
        cases hl : l[k]? with
        | none => simp [hl] at hs
        | some x1 =>
          simp only [hl] at hs
          cases hx : setT re x1 q c with
          | none => simp [hx] at hs
          | some y1 =>
            simp only [hx, Option.some.injEq] at hs
            subst hs
            obtain ⟨v1, L1, _, hcs, hT⟩ := TCL_get h hl
            refine ⟨cs.modify k fun L => setLy L q N, by simp [setLy], TCL_g hl hcs (fun v hv' => ?_) h⟩
            refine sub x1 v L1 y1 hv' hx fun c0 v' h5 h6 => hc c0 v' (by simpa [getT, hl] using h5) ?_
            rcases h6 with ⟨L', h6, h7⟩ | ⟨h6, h7⟩
            · exact .inl ⟨L', by simpa [lyAt, hcs] using h6, h7⟩
            · exact .inr ⟨by simpa [lyAt, hcs] using h6, h7⟩
      | tp b l =>
        obtain ⟨tv, cs, hv, hL, h⟩ := h
        subst hL
        simp only [setT] at hs
        cases hl : l[k]? with
        | none => simp [hl] at hs
        | some x1 =>
          simp only [hl] at hs
          cases hx : setT re x1 q c with
          | none => simp [hx] at hs
          | some y1 =>
            simp only [hx, Option.some.injEq] at hs
            subst hs
            obtain ⟨v1, L1, _, hcs, hT⟩ := TCL_get h hl
            refine ⟨tv, cs.modify k fun L => setLy L q N, hv, by simp [setLy], TCL_g hl hcs (fun v hv' => ?_) h⟩
            refine sub x1 v L1 y1 hv' hx fun c0 v' h5 h6 => hc c0 v' (by simpa [getT, hl] using h5) ?_
            rcases h6 with ⟨L', h6, h7⟩ | ⟨h6, h7⟩
            · exact .inl ⟨L', by simpa [lyAt, hcs] using h6, h7⟩
            · exact .inr ⟨by simpa [lyAt, hcs] using h6, h7⟩
      | _ => simp [setT] at hs
    | e i sz k =>
      cases t with
      | own fl sz0 l =>
        cases q with
        | cons y q => simp [setT] at hs
        | nil =>
          cases c with
          | r c1 =>
            simp only [setT] at hs
            by_cases hsz : sz0 = sz
            · subst hsz
              simp only [beq_self_eq_true] at hs
              cases hl : re.get l i with
              | none => simp [hl] at hs
              | some x1 =>
                simp only [hl] at hs
                cases ho : x1.cells[k]? with
                | none => simp [ho] at hs
                | some y1 =>
                  simp only [ho, Option.some.injEq] at hs
                  subst hs
                  obtain ⟨hpos, ⟨hnil, _⟩ | ⟨g1, cap, cur, e, hv, hL, hg, h1, h2, h3, h4⟩⟩ := h
                  · subst hnil; simp [re] at hl
                  · subst hL
                    have hl' : l[i]? = some x1 := hl
                    refine ⟨hpos, .inr ⟨g1, cap, cur, e, by rw [hv]; simp [re], by simp [setLy, re], hg, by simpa [re] using h1, h2, h3, ?_⟩⟩
                    refine RCE_g ho (fun v hv' => ?_) hl' h4
                    exact (hc (.r y1) v (by simp [getT, hl, ho]) (.inr ⟨by simp [lyAt], y1, rfl, hv'⟩)).1
            · have : (sz0 == sz) = false := by simp [hsz]
              simp [this] at hs
          | _ => simp [setT] at hs
      | ow sz0 l =>
        obtain ⟨hpos, g1, cap, cur, e, cs, hv, hL, hg, h1, h2, h3, h4⟩ := h
        subst hL
        simp only [setT] at hs
        by_cases hsz : sz0 = sz
        · subst hsz
          simp only [beq_self_eq_true] at hs
          cases hl : l[i]? with
          | none => simp [hl] at hs
          | some x1 =>
            simp only [hl] at hs
            cases ho : x1.cells[k]? with
            | none => simp [ho] at hs
            | some y1 =>
              simp only [ho] at hs
              cases hx : setT re y1 q c with
              | none => simp [hx] at hs
              | some z1 =>
                simp only [hx, Option.some.injEq] at hs
                subst hs
                obtain ⟨vs, L2, h5, h6, h7, h8, h9⟩ := TCE_get h4 hl
                obtain ⟨v1, L1, hv1, hu, hT⟩ := TC_cell h9 (by rw [h5, h6]) ho
                have hlt : k < sz0 := by have := (List.getElem?_eq_some_iff.1 hv1).1; omega
                have hcs : cs[i * sz0 + k]? = some L1 := (h8 k hlt).trans hu
                refine ⟨hpos, g1, cap, cur, e, cs.modify (i * sz0 + k) fun L => setLy L q N, by rw [hv]; simp, by simp [setLy], hg, by simpa using h1, h2, h3, ?_⟩
                refine TCE_g hl ho hlt hcs (fun h => setLy_un h hN) (fun v hv' => ?_) h4
                refine sub y1 v L1 z1 hv' hx fun c0 v' h5 h6 => hc c0 v' (by simpa [getT, hl, ho] using h5) ?_
                rcases h6 with ⟨L', h6, h7⟩ | ⟨h6, h7⟩
                · exact .inl ⟨L', by simpa [lyAt, hcs] using h6, h7⟩
                · exact .inr ⟨by simpa [lyAt, hcs] using h6, h7⟩
        · have : (sz0 == sz) = false := by simp [hsz]
          simp [this] at hs
      | _ => cases q <;> simp [setT] at hs
theorem gsetV {c : T} {N : Ly} (hN : N.un = [N]) {q : Pth} {t : T} {v : Value} {L : Ly} {t' : T} (hq : q ≠ []) (h : TV w RO Ls t v L) (hs : setT re t q c = some t')
    (hc : ∀ c0 v', getT re t q = some c0 → Place w RO Ls L q c0 v' → TC w RO Ls c [v'] N) : TV w RO Ls t' v (setLy L q N) := by
  cases t with
  | a l =>
    obtain ⟨vs, cs, hv, hL, h⟩ := h
    have := gset hN q (.a l) vs.toList L t' hq ⟨cs, hL, h⟩ hs hc
    cases q with
    | nil => exact absurd rfl hq
    | cons x q =>
      cases x with
      | t k =>
        simp only [setT] at hs
        split at hs
        · split at hs
          · cases hs
            obtain ⟨cs', h1, h2⟩ := this
            exact ⟨vs, cs', hv, h1, h2⟩
          · cases hs
        · cases hs
      | d k => simp [setT] at hs
      | e i sz k => cases q <;> simp [setT] at hs
  | r x => cases q with
    | nil => exact absurd rfl hq
    | cons y q => cases y <;> (try cases q) <;> simp [setT] at hs
  | u => cases q with
    | nil => exact absurd rfl hq
    | cons y q => cases y <;> (try cases q) <;> simp [setT] at hs
  | p r1 q1 => cases q with
    | nil => exact absurd rfl hq
    | cons y q => cases y <;> (try cases q) <;> simp [setT] at hs
  | v r1 q1 sz1 w1 => cases q with
    | nil => exact absurd rfl hq
    | cons y q => cases y <;> (try cases q) <;> simp [setT] at hs
  | cp l1 o1 => cases q with
    | nil => exact absurd rfl hq
    | cons y q => cases y <;> (try cases q) <;> simp [setT] at hs
  | f g1 c1 => cases q with
    | nil => exact absurd rfl hq
    | cons y q => cases y <;> (try cases q) <;> simp [setT] at hs
  | bx l =>
    have := gset hN q (.bx l) [v] L t' hq h hs hc
    cases q with
    | nil => exact absurd rfl hq
    | cons x q =>
      cases x <;> simp only [setT] at hs
      · split at hs
        · split at hs
          · cases hs; exact this
          · cases hs
        · cases hs
      all_goals simp at hs
  | tp b l =>
    have := gset hN q (.tp b l) [v] L t' hq h hs hc
    cases q with
    | nil => exact absurd rfl hq
    | cons x q =>
      cases x <;> simp only [setT] at hs
      case t k =>
        split at hs
        · split at hs
          · cases hs; exact this
          · cases hs
        · cases hs
      all_goals simp at hs
  | own fl sz l =>
    have := gset hN q (.own fl sz l) [v] L t' hq h hs hc
    cases q with
    | nil => exact absurd rfl hq
    | cons x q =>
      cases x with
      | e i sz' k =>
        cases q with
        | cons y q => simp [setT] at hs
        | nil => cases c with
          | r c1 =>
            simp only [setT] at hs
            split at hs
            · split at hs
              · cases hs; exact this
              · cases hs
            · cases hs
          | _ => simp [setT] at hs
      | _ => simp [setT] at hs
  | ow sz l =>
    have := gset hN q (.ow sz l) [v] L t' hq h hs hc
    cases q with
    | nil => exact absurd rfl hq
    | cons x q =>
      cases x with
      | e i sz' k =>
        simp only [setT] at hs
        split at hs
        · split at hs
          · split at hs
            · cases hs; exact this
            · cases hs
          · cases hs
        · cases hs
      | _ => simp [setT] at hs
end
end Go.Os
set_option linter.unusedVariables false
namespace Go.Os
def kid : Ly → Sp → Option Ly
  | .bl _ _ _ _ cs, .d o => cs[o]?
  | .bl _ _ _ _ cs, .e i sz o => cs[i * sz + o]?
  | .ag cs, .t k => cs[k]?
  | _, _ => none
theorem lyAt_cons (L : Ly) (x : Sp) (q : Pth) : lyAt L (x :: q) = (kid L x).bind fun K => lyAt K q := by
  cases L <;> cases x <;> simp [lyAt, kid]
theorem adAt_cons (L : Ly) (x y : Sp) (q : Pth) : adAt L (x :: y :: q) = (kid L x).bind fun K => adAt K (y :: q) := by
  cases L <;> cases x <;> simp [adAt, kid]
theorem adAt_nil (L : Ly) : adAt L [] = none := by cases L <;> simp [adAt]
theorem lyAt_nil (L : Ly) : lyAt L [] = some L := by cases L <;> rfl
theorem setLy_nil (L N : Ly) : setLy L [] N = N := by cases L <;> rfl
theorem ad_one (L : Ly) (x y : Sp) (q : Pth) (N : Ly) : adAt (setLy L (x :: q) N) [y] = adAt L [y] := by
  cases L <;> cases x <;> cases y <;> simp [setLy, adAt, adAt_nil]
theorem modify_get {α : Type} (l : List α) (k i : Nat) (f : α → α) : (l.modify k f)[i]? = if k = i then (l[i]?).map f else l[i]? := by
  rw [List.getElem?_modify]
  split <;> rename_i h
  · cases l[i]? <;> rfl
  · cases l[i]? <;> rfl
theorem kid_set {L K : Ly} {x y : Sp} {q : Pth} {N : Ly} (h : kid L y = some K) :
    ∃ K', kid (setLy L (x :: q) N) y = some K' ∧ (K' = K ∨ (K' = setLy K q N ∧ kid L x = some K ∧ x.may y = true)) := by
  cases L with
  | bl g off n cap cs =>
    cases x <;> cases y <;> simp only [kid] at h <;> simp only [setLy, kid, modify_get] <;> (try (split <;> rename_i e)) <;> simp_all [Sp.may] <;> exact ⟨_, h, .inl rfl⟩
  | ag cs =>
    cases x <;> cases y <;> simp only [kid] at h <;> simp only [setLy, kid, modify_get] <;> (try (split <;> rename_i e)) <;> simp_all [Sp.may]
  | _ => cases y <;> simp [kid] at h
def topEq : Ly → Ly → Prop
  | .bl g o n c _, L' => (∃ cs, L' = .bl g o n c cs) ∨ L' = .fz g o n c
  | .ag _, L' => ∃ cs, L' = .ag cs
  | L, L' => L' = L
theorem topEq.refl (L : Ly) : topEq L L := by cases L <;> simp [topEq]
theorem top_set (L : Ly) (x : Sp) (q : Pth) (N : Ly) : topEq L (setLy L (x :: q) N) := by
  cases L <;> cases x <;> simp [topEq, setLy]
theorem viewV_top {L L' : Ly} {sz : Nat} {wd : Option (Nat × Nat)} {v : Value} (h : topEq L L') (hv : viewV L sz wd v) : viewV L' sz wd v := by
  cases L with
  | bl g o n c cs =>
    rcases h with ⟨cs', rfl⟩ | rfl
    · cases wd with
      | none => exact hv
      | some x =>
        obtain ⟨h1, h2, ad, cap, h3, h4, h5⟩ := hv
        refine ⟨by simp, by simp, ad, cap, h3, h4, h5.imp id ?_⟩
        rintro ⟨g', off, m, c', h6 | ⟨cs2, h6⟩, h7⟩
        · cases h6
        · cases h6; exact ⟨_, _, _, _, .inr ⟨cs', rfl⟩, h7⟩
    · cases wd with
      | none => exact hv
      | some x =>
        obtain ⟨h1, h2, ad, cap, h3, h4, h5⟩ := hv
        refine ⟨by simp, by simp, ad, cap, h3, h4, h5.imp id ?_⟩
        rintro ⟨g', off, m, c', h6 | ⟨cs2, h6⟩, h7⟩
        · cases h6
        · cases h6; exact ⟨_, _, _, _, .inl rfl, h7⟩
  | ag cs =>
    obtain ⟨cs', rfl⟩ := h
    cases wd with
    | none => exact hv
    | some x => exact absurd rfl (hv.2.1 cs)
  | no => rw [show L' = _ from h]; exact hv
  | nl => rw [show L' = _ from h]; exact hv
  | fz g o n c => rw [show L' = _ from h]; exact hv
theorem ad_set : ∀ (q : Pth) (L N : Ly) (q' : Pth) (x : Nat × Nat), adAt L q' = some x → (pre q q' && decide (q.length < q'.length)) = false → adAt (setLy L q N) q' = some x
  | [], L, N, q', x, h, hp => by
    cases q' with
    | nil => rw [adAt_nil] at h; cases h
    | cons y q' => simp [pre] at hp
  | x1 :: q, L, N, q', x, h, hp => by
    cases q' with
    | nil => rw [adAt_nil] at h; cases h
    | cons y q' =>
      cases q' with
      | nil => rw [ad_one]; exact h
      | cons z q' =>
        rw [adAt_cons, Option.bind_eq_some_iff] at h
        obtain ⟨K, hK, h⟩ := h
        obtain ⟨K', hK', h1 | ⟨h1, h2, h3⟩⟩ := kid_set (x := x1) (q := q) (N := N) hK
        · rw [adAt_cons, hK', h1]; exact h
        · rw [adAt_cons, hK', h1]
          refine ad_set q K N (z :: q') x h ?_
          rw [show pre (x1 :: q) (y :: z :: q') = (x1.may y && pre q (z :: q')) from rfl, h3] at hp
          simpa using hp
theorem ly_set : ∀ (q : Pth) (L N : Ly) (q' : Pth) (L1 : Ly), lyAt L q' = some L1 → pre q q' = false → ∃ L1', lyAt (setLy L q N) q' = some L1' ∧ topEq L1 L1'
  | [], L, N, q', L1, h, hp => by simp [pre] at hp
  | x1 :: q, L, N, q', L1, h, hp => by
    cases q' with
    | nil => rw [lyAt_nil] at h; cases h; exact ⟨_, lyAt_nil _, top_set L x1 q N⟩
    | cons y q' =>
      rw [lyAt_cons, Option.bind_eq_some_iff] at h
      obtain ⟨K, hK, h⟩ := h
      obtain ⟨K', hK', h1 | ⟨h1, h2, h3⟩⟩ := kid_set (x := x1) (q := q) (N := N) hK
      · rw [lyAt_cons, hK', h1]; exact ⟨L1, h, topEq.refl _⟩
      · rw [lyAt_cons, hK', h1]
        refine ly_set q K N q' L1 h ?_
        rw [show pre (x1 :: q) (y :: q') = (x1.may y && pre q q') from rfl, h3] at hp
        simpa using hp
theorem ly_fz {g off n cap : Nat} {cs : List Ly} : ∀ (q : Pth) (L : Ly) (q' : Pth) (L1 : Ly), lyAt L q = some (.bl g off n cap cs) → lyAt L q' = some L1 → (cs = [] ∨ q'.length ≤ q.length) →
    ∃ L1', lyAt (setLy L q (.fz g off n cap)) q' = some L1' ∧ topEq L1 L1'
  | [], L, q', L1, hq, h, hl => by
    rw [lyAt_nil] at hq; cases hq
    cases q' with
    | nil => rw [lyAt_nil] at h; cases h; exact ⟨_, by rw [setLy_nil, lyAt_nil], .inr rfl⟩
    | cons y q' =>
      rcases hl with rfl | hl
      · cases y <;> simp [lyAt] at h
      · simp at hl
  | x1 :: q, L, q', L1, hq, h, hl => by
    cases q' with
    | nil => rw [lyAt_nil] at h; cases h; exact ⟨_, lyAt_nil _, top_set L x1 q _⟩
    | cons y q' =>
      rw [lyAt_cons, Option.bind_eq_some_iff] at h
      obtain ⟨K, hK, h⟩ := h
      obtain ⟨K', hK', h1 | ⟨h1, h2, h3⟩⟩ := kid_set (x := x1) (q := q) (N := .fz g off n cap) hK
      · rw [lyAt_cons, hK', h1]; exact ⟨L1, h, topEq.refl _⟩
      · rw [lyAt_cons, hK', h1]
        rw [lyAt_cons, h2] at hq
        exact ly_fz q K q' L1 hq h (hl.imp id (by simp))
theorem ad_fz {g off n cap : Nat} : ∀ (q : Pth) (L : Ly) (q' : Pth) (x : Nat × Nat), lyAt L q = some (.bl g off n cap []) → adAt L q' = some x → adAt (setLy L q (.fz g off n cap)) q' = some x
  | [], L, q', x, hq, h => by
    rw [lyAt_nil] at hq; cases hq
    rw [setLy_nil]
    cases q' with
    | nil => rw [adAt_nil] at h; cases h
    | cons y q' => cases q' with
      | nil => cases y <;> simp [adAt] at h ⊢ <;> exact h
      | cons z q' => cases y <;> simp [adAt] at h
  | x1 :: q, L, q', x, hq, h => by
    cases q' with
    | nil => rw [adAt_nil] at h; cases h
    | cons y q' =>
      cases q' with
      | nil => rw [ad_one]; exact h
      | cons z q' =>
        rw [adAt_cons, Option.bind_eq_some_iff] at h
        obtain ⟨K, hK, h⟩ := h
        obtain ⟨K', hK', h1 | ⟨h1, h2, h3⟩⟩ := kid_set (x := x1) (q := q) (N := .fz g off n cap) hK
        · rw [adAt_cons, hK', h1]; exact h
        · rw [adAt_cons, hK', h1]
          rw [lyAt_cons, h2] at hq
          exact ad_fz q K (z :: q') x hq h
theorem bsL_modify_sub {f : Ly → Ly} : ∀ (cs : List Ly) (k : Nat), (∀ L ∈ cs, (f L).bs.Sublist L.bs) → (Ly.bsL (cs.modify k f)).Sublist (Ly.bsL cs)
  | [], k, _ => by cases k <;> simp [List.modify_nil]
  | L :: cs, 0, h => by
    simp only [List.modify_zero_cons, Ly.bsL]
    exact (h L (by simp)).append (List.Sublist.refl _)
  | L :: cs, k + 1, h => by
    simp only [List.modify_succ_cons, Ly.bsL]
    exact (List.Sublist.refl _).append (bsL_modify_sub cs k fun M hM => h M (by simp [hM]))
theorem setLy_bs : ∀ (q : Pth) (L N : Ly), N.bs = [] → (setLy L q N).bs.Sublist L.bs
  | [], L, N, hN => by rw [setLy_nil, hN]; exact List.nil_sublist _
  | x :: q, L, N, hN => by
    cases L with
    | bl g off n cap cs =>
      cases x with
      | d o => simp only [setLy, Ly.bs]; exact (bsL_modify_sub cs o fun M _ => setLy_bs q M N hN).cons_cons g
      | e i sz o => simp only [setLy, Ly.bs]; exact (bsL_modify_sub cs _ fun M _ => setLy_bs q M N hN).cons_cons g
      | t k => simp [setLy]
    | ag cs =>
      cases x with
      | t k => simp only [setLy, Ly.bs]; exact bsL_modify_sub cs k fun M _ => setLy_bs q M N hN
      | d o => simp [setLy]
      | e i sz o => simp [setLy]
    | no => cases x <;> simp [setLy]
    | nl => cases x <;> simp [setLy]
    | fz g off n cap => cases x <;> simp [setLy]
theorem kid_bs {L K : Ly} {x : Sp} (h : kid L x = some K) : ∀ g ∈ K.bs, g ∈ L.bs := by
  intro g hg
  cases L with
  | bl g' off n cap cs => cases x <;> simp only [kid] at h <;> first | (simp only [Ly.bs, List.mem_cons]; exact .inr (bsL_get h g hg)) | cases h
  | ag cs => cases x <;> simp only [kid] at h <;> first | (simp only [Ly.bs]; exact bsL_get h g hg) | cases h
  | _ => cases x <;> simp [kid] at h
theorem lyAt_bs : ∀ (q : Pth) (L L1 : Ly), lyAt L q = some L1 → ∀ g ∈ L1.bs, g ∈ L.bs
  | [], L, L1, h, g, hg => by rw [lyAt_nil] at h; cases h; exact hg
  | x :: q, L, L1, h, g, hg => by
    rw [lyAt_cons, Option.bind_eq_some_iff] at h
    obtain ⟨K, hK, h⟩ := h
    exact kid_bs hK g (lyAt_bs q K L1 h g hg)
theorem bsL_modify_out {f : Ly → Ly} {g : Nat} {cs : List Ly} {k : Nat} {K : Ly} (hnd : (Ly.bsL cs).Nodup) (hk : cs[k]? = some K) (hg : g ∈ K.bs) (hf : g ∉ (f K).bs) : g ∉ Ly.bsL (cs.modify k f) := by
  intro hm
  obtain ⟨j, M, hj, hgM⟩ := mem_bsL_get hm
  rw [modify_get] at hj
  split at hj
  · rename_i e; subst e
    rw [hk] at hj; cases hj; exact hf hgM
  · rename_i e
    exact nodup_get hnd hk hj e g hg hgM
theorem setLy_out : ∀ (q : Pth) (L N L1 : Ly), N.bs = [] → L.bs.Nodup → lyAt L q = some L1 → ∀ g ∈ L1.bs, g ∉ (setLy L q N).bs
  | [], L, N, L1, hN, _, h, g, hg => by rw [setLy_nil, hN]; simp
  | x :: q, L, N, L1, hN, hnd, h, g, hg => by
    rw [lyAt_cons, Option.bind_eq_some_iff] at h
    obtain ⟨K, hK, h⟩ := h
    have hgK := lyAt_bs q K L1 h g hg
    cases L with
    | bl g' off n cap cs =>
      simp only [Ly.bs, List.nodup_cons] at hnd
      cases x <;> simp only [kid] at hK
      case t => cases hK
      all_goals
        have ih := setLy_out q K N L1 hN (nodup_of_get hnd.2 hK) h g hg
        simp only [setLy, Ly.bs, List.mem_cons, not_or]
        exact ⟨fun e => hnd.1 (e ▸ bsL_get hK g hgK), bsL_modify_out hnd.2 hK hgK ih⟩
    | ag cs =>
      simp only [Ly.bs] at hnd
      cases x <;> simp only [kid] at hK
      case t =>
        have ih := setLy_out q K N L1 hN (nodup_of_get hnd hK) h g hg
        simp only [setLy, Ly.bs]
        exact bsL_modify_out hnd hK hgK ih
      all_goals cases hK
    | _ => cases x <;> simp [kid] at hK
end Go.Os
set_option linter.unusedVariables false
namespace Go.Os
theorem Ext.refl (w : World) (RO : Nat → Prop) (Ls : List Ly) : Ext w RO Ls [] w RO Ls :=
  ⟨rfl, rfl, rfl, Nat.le_refl _, fun _ _ _ => rfl, fun _ h => h, fun _ h => .inl h, fun _ h => .inl h, fun _ _ => rfl⟩
theorem Ext.mono {w w' : World} {RO RO' : Nat → Prop} {Ls Ls' : List Ly} {W W' : List Nat} (h : Ext w RO Ls W w' RO' Ls') (hs : ∀ r ∈ W, r ∈ W') : Ext w RO Ls W' w' RO' Ls' :=
  ⟨h.os, h.tape, h.output, h.size, fun k hk hr => h.blk k hk fun r hrW => hr r (hs r hrW), h.ro, h.ro', h.own, fun r hr => h.ly r fun hrW => hr (hs r hrW)⟩
theorem mem_getD {Ls : List Ly} {g : Nat} (h : g ∈ Ly.bsL Ls) : ∃ r, g ∈ (Ls.getD r .no).bs := by
  obtain ⟨j, L, hj, hg⟩ := mem_bsL_get h
  exact ⟨j, by simpa [List.getD_eq_getElem?_getD, hj] using hg⟩
theorem getD_disj {Ls : List Ly} (hnd : (Ly.bsL Ls).Nodup) {r j g : Nat} (hr : g ∈ (Ls.getD r .no).bs) (hj : g ∈ (Ls.getD j .no).bs) : r = j := by
  by_cases e : r = j
  · exact e
  · exfalso
    rw [List.getD_eq_getElem?_getD] at hr hj
    cases h1 : Ls[r]? with
    | none => simp [h1, Ly.bs] at hr
    | some L => cases h2 : Ls[j]? with
      | none => simp [h2, Ly.bs] at hj
      | some M =>
        simp [h1] at hr; simp [h2] at hj
        exact nodup_get hnd h1 h2 e g hr hj
theorem Ext.trans {w w1 w2 : World} {RO RO1 RO2 : Nat → Prop} {Ls Ls1 Ls2 : List Ly} {W1 W2 : List Nat} (hnd : (Ly.bsL Ls1).Nodup)
    (h : Ext w RO Ls W1 w1 RO1 Ls1) (k : Ext w1 RO1 Ls1 W2 w2 RO2 Ls2) : Ext w RO Ls (W1 ++ W2) w2 RO2 Ls2 where
  os := k.os.trans h.os
  tape := k.tape.trans h.tape
  output := k.output.trans h.output
  size := Nat.le_trans h.size k.size
  blk g hg hr := by
    rw [k.blk g (Nat.lt_of_lt_of_le hg h.size) fun r hrW hgr => ?_]
    · exact h.blk g hg fun r hrW => hr r (by simp [hrW])
    · by_cases e : r ∈ W1
      · rcases h.own g (getD_mem hgr) with hgo | hgo
        · obtain ⟨j, hj⟩ := mem_getD hgo
          by_cases ej : j ∈ W1
          · exact hr j (by simp [ej]) hj
          · have := getD_disj hnd hgr (by rw [h.ly j ej]; exact hj)
            exact ej (this ▸ e)
        · omega
      · exact hr r (by simp [hrW]) (by rw [← h.ly r e]; exact hgr)
  ro g hg := k.ro g (h.ro g hg)
  ro' g hg := by
    rcases k.ro' g hg with hg | hg | hg
    · exact h.ro' g hg
    · rcases h.own g hg with hg | hg
      · exact .inr (.inl hg)
      · exact .inr (.inr hg)
    · exact .inr (.inr (Nat.le_trans h.size hg))
  own g hg := by
    rcases k.own g hg with hg | hg
    · exact h.own g hg
    · exact .inr (Nat.le_trans h.size hg)
  ly r hr := by
    simp only [List.mem_append, not_or] at hr
    rw [k.ly r hr.2, h.ly r hr.1]
section
variable {P : Program} {w : World} {RO RO' : Nat → Prop} {Ls : List Ly} {a : Act} {s : List T}
theorem setP_slot {s s1 : List T} {r : Nat} {q : Pth} {c : T} (h : setP re s r q c = some s1) : ∃ t', setT re (slot s r) q c = some t' ∧ s1 = s.set r t' := by
  unfold setP at h
  split at h
  · rename_i t' ht; cases h; exact ⟨t', ht, rfl⟩
  · cases h
theorem setT_nil {t c : T} : setT re t [] c = some c := by cases t <;> simp [setT]
theorem rel_ghost {s1 : List T} {r : Nat} {q : Pth} {L0 N : Ly} {c : T} {fp : Nat → Pth → T} {fv : Nat → Pth → Nat → Option (Nat × Nat) → T} {tm : Array Value}
    (h : Rel w RO Ls s tm) (h0 : Ls[r]? = some L0) (hN : N.un = [N]) (hNb : N.bs = [])
    (hp1 : ∀ r q l, fp r q ≠ .a l) (hp2 : ∀ r q x, fp r q ≠ .r x) (hv1 : ∀ r q sz wd l, fv r q sz wd ≠ .a l) (hv2 : ∀ r q sz wd x, fv r q sz wd ≠ .r x)
    (hro : ∀ g, RO g → RO' g) (hro' : ∀ g, RO' g → RO g ∨ (g ∈ L0.bs ∧ g ∉ (setLy L0 q N).bs))
    (hM : ∀ rs, Maps w RO' Ls (Ls.set r (setLy L0 q N)) fp fv rs)
    (hs : setP re (mapL fp fv s) r q c = some s1)
    (hc : q ≠ [] → ∀ c0 v', getT re (mapT fp fv (slot s r)) q = some c0 → Place w RO' (Ls.set r (setLy L0 q N)) L0 q c0 v' → TC w RO' (Ls.set r (setLy L0 q N)) c [v'] N)
    (hc0 : q = [] → TV w RO' (Ls.set r (setLy L0 q N)) (mapT fp fv (slot s r)) (tm.getD r undef) L0 → TV w RO' (Ls.set r (setLy L0 q N)) c (tm.getD r undef) N) :
    Rel w RO' (Ls.set r (setLy L0 q N)) s1 tm := by
  obtain ⟨t', ht, rfl⟩ := setP_slot hs
  rw [mapL_getD] at ht
  have hmap : ∀ j, TV w RO' (Ls.set r (setLy L0 q N)) (mapT fp fv (slot s j)) (tm.getD j undef) (Ls.getD j .no) := fun j =>
    TV_map (fun _ _ => rfl) hro (fun _ _ => rfl) hp1 hp2 hv1 hv2 (hM _) (h.slot j)
  have hlt : r < Ls.length := (List.getElem?_eq_some_iff.1 h0).1
  have hL0 : Ls.getD r .no = L0 := by simp [List.getD_eq_getElem?_getD, h0]
  have hsub := setLy_bs q L0 N hNb
  refine ⟨by simp [h.len, mapL_length], by simp [h.lenL, mapL_length], fun j => ?_, ?_, fun g hg => ?_, fun g hg => ?_⟩
  · rw [set_getD, slot_set]
    by_cases e : j = r
    · subst e
      rw [if_pos ⟨rfl, by rw [mapL_length, ← h.lenL]; exact hlt⟩, if_pos ⟨rfl, hlt⟩]
      have hj := hmap j
      rw [hL0] at hj
      by_cases hq : q = []
      · subst hq
        rw [setT_nil] at ht; cases ht
        rw [setLy_nil] at hc0 ⊢
        exact hc0 rfl hj
      · exact gsetV hN hq hj ht (hc hq)
    · rw [if_neg (by simp [e]), if_neg (by simp [e]), mapL_getD]
      exact hmap j
  · refine nodup_set h.nodup ((hsub.nodup) (by have := h.nodup; exact nodup_of_get this h0)) fun g hg j hj hgj => ?_
    exact hj (getD_disj h.nodup hgj (by rw [hL0]; exact hsub.subset hg))
  · have hgL : g ∈ Ly.bsL Ls := by
      rcases bsL_set_mem hg with hg | ⟨j, _, hg⟩
      · exact bsL_get h0 g (hsub.subset hg)
      · exact getD_mem hg
    refine ⟨(h.own g hgL).1, fun hr => ?_⟩
    rcases hro' g hr with hr | ⟨h1, h2⟩
    · exact (h.own g hgL).2 hr
    · rcases bsL_set_mem hg with hg | ⟨j, hj, hg⟩
      · exact h2 hg
      · exact hj (getD_disj h.nodup hg (by rw [hL0]; exact h1))
  · rcases hro' g hg with hg | ⟨hg, _⟩
    · exact h.ro g hg
    · exact (h.own g (bsL_get h0 g hg)).1
theorem ext_ghost {r : Nat} {q : Pth} {L0 N : Ly} (h0 : Ls[r]? = some L0) (hNb : N.bs = []) (hro : ∀ g, RO g → RO' g) (hro' : ∀ g, RO' g → RO g ∨ (g ∈ L0.bs ∧ g ∉ (setLy L0 q N).bs)) :
    Ext w RO Ls [r] w RO' (Ls.set r (setLy L0 q N)) where
  os := rfl
  tape := rfl
  output := rfl
  size := Nat.le_refl _
  blk _ _ _ := rfl
  ro := hro
  ro' g hg := by
    rcases hro' g hg with hg | ⟨hg, _⟩
    · exact .inl hg
    · exact .inr (.inl (bsL_get h0 g hg))
  own g hg := by
    rcases bsL_set_mem hg with hg | ⟨j, _, hg⟩
    · exact .inl (bsL_get h0 g ((setLy_bs q L0 N hNb).subset hg))
    · exact .inl (getD_mem hg)
  ly j hj := by rw [set_getD, if_neg (by simp at hj; simp [hj])]
theorem maps_kill {r : Nat} {q : Pth} {L0 N : Ly} (h0 : Ls[r]? = some L0) (rs : List Nat) : Maps w RO' Ls (Ls.set r (setLy L0 q N)) (killP r q) (killV r q) rs := by
  have hlt : r < Ls.length := (List.getElem?_eq_some_iff.1 h0).1
  refine ⟨fun r1 _ q1 L1 g o h1 h2 => ?_, fun r1 _ q1 sz wd L1 L2 x h1 h2 h3 => ?_⟩
  · unfold killP
    cases hh : hangsP r q r1 q1 with
    | true => exact rfl
    | false =>
      by_cases e : r = r1
      · subst e
        rw [h0] at h1; cases h1
        refine ⟨rfl, setLy L0 q N, g, o, by simp [hlt], ad_set q L0 N q1 _ h2 (by simpa [hangsP] using hh), rfl⟩
      · exact ⟨rfl, L1, g, o, by rw [List.getElem?_set_ne e]; exact h1, h2, rfl⟩
  · unfold killV
    cases hh : hangsV r q r1 q1 with
    | true => exact rfl
    | false =>
      by_cases e : r = r1
      · subst e
        rw [h0] at h1; cases h1
        obtain ⟨L2', h4, h5⟩ := ly_set q L0 N q1 L2 h2 (by simpa [hangsV] using hh)
        exact ⟨rfl, setLy L0 q N, L2', x, by simp [hlt], h4, rfl, viewV_top h5 h3⟩
      · exact ⟨rfl, L1, L2, x, by rw [List.getElem?_set_ne e]; exact h1, h2, rfl, h3⟩
theorem mapL_get (fp : Nat → Pth → T) (fv : Nat → Pth → Nat → Option (Nat × Nat) → T) : ∀ (l : List T) (k : Nat), (mapL fp fv l)[k]? = (l[k]?).map (mapT fp fv)
  | [], k => by simp [mapL]
  | t :: l, 0 => by simp [mapL]
  | t :: l, k + 1 => by simp [mapL, mapL_get fp fv l k]
theorem cells_map {fp : Nat → Pth → T} {fv : Nat → Pth → Nat → Option (Nat × Nat) → T} (hcp : ∀ r q, (fp r q).cells = [fp r q]) (hcv : ∀ r q sz wd, (fv r q sz wd).cells = [fv r q sz wd]) (x : T) {k : Nat} {y : T}
    (h : x.cells[k]? = some y) : (mapT fp fv x).cells[k]? = some (mapT fp fv y) := by
  have one : x.cells = [x] → (mapT fp fv x).cells = [mapT fp fv x] → (mapT fp fv x).cells[k]? = some (mapT fp fv y) := by
    intro h1 h2
    rw [h1] at h; rw [h2]
    cases k with
    | zero => simp at h ⊢; rw [h]
    | succ k => simp at h
  cases x with
  | a l => simp only [T.cells, mapT] at h ⊢; rw [mapL_get, h]; rfl
  | tp b l => simp [T.cells] at h
  | r x => cases x <;> first | (simp [T.cells] at h; done) | exact one rfl rfl
  | p r q => exact one rfl (hcp r q)
  | v r q sz wd => exact one rfl (hcv r q sz wd)
  | _ => exact one rfl rfl
theorem getT_map {fp : Nat → Pth → T} {fv : Nat → Pth → Nat → Option (Nat × Nat) → T} (hcp : ∀ r q, (fp r q).cells = [fp r q]) (hcv : ∀ r q sz wd, (fv r q sz wd).cells = [fv r q sz wd]) :
    ∀ (q : Pth) (t c : T), getT re t q = some c → getT re (mapT fp fv t) q = some (mapT fp fv c)
  | [], t, c, h => by
    have e : ∀ t : T, getT re t [] = some t := fun t => by cases t <;> rfl
    rw [e] at h; cases h; exact e _
  | x :: q, t, c, h => by
    cases t with
    | u => cases x <;> simp [getT] at h
    | p r1 q1 => cases x <;> simp [getT] at h
    | v r1 q1 sz1 w1 => cases x <;> simp [getT] at h
    | cp l1 o1 => cases x <;> simp [getT] at h
    | f g1 c1 => cases x <;> simp [getT] at h
    | bx l =>
      cases x with
      | d o =>
        simp only [getT] at h
        split at h
        · rename_i c1 hc1
          simp only [mapT, getT, mapL_get, hc1, Option.map_some]
          exact getT_map hcp hcv q c1 c h
        · cases h
      | _ => simp [getT] at h
    | a l =>
      cases x with
      | t k =>
        simp only [getT] at h
        split at h
        · rename_i c1 hc1
          simp only [mapT, getT, mapL_get, hc1, Option.map_some]
          exact getT_map hcp hcv q c1 c h
        · cases h
      | _ => simp [getT] at h
    | tp b l =>
      cases x with
      | t k =>
        simp only [getT] at h
        split at h
        · rename_i c1 hc1
          simp only [mapT, getT, mapL_get, hc1, Option.map_some]
          exact getT_map hcp hcv q c1 c h
        · cases h
      | _ => simp [getT] at h
    | ow sz l =>
      cases x with
      | e i sz' o =>
        simp only [getT] at h
        split at h
        · rename_i x1 hsz hx1
          split at h
          · rename_i c1 hc1
            simp only [mapT, getT, mapL_get, hsz, hx1, Option.map_some, cells_map hcp hcv x1 hc1]
            exact getT_map hcp hcv q c1 c h
          · cases h
        · cases h
      | _ => simp [getT] at h
    | own fl sz l =>
      have hr : ∀ (q : Pth) (y : R) (c : T), getT re (.r y) q = some c → ∃ z, c = .r z := by
        intro q
        induction q with
        | nil => intro y c h; simp [getT] at h; exact ⟨y, h.symm⟩
        | cons x q ih =>
          intro y c h
          cases y with
          | ro sz l => cases x with
            | e i sz' o =>
              simp only [getT] at h
              split at h
              · split at h
                · exact ih _ _ h
                · cases h
              · cases h
            | _ => simp [getT] at h
          | _ => cases x <;> simp [getT] at h
      cases x with
      | e i sz' o =>
        have h' := h
        simp only [getT] at h
        split at h
        · split at h
          · obtain ⟨z, rfl⟩ := hr q _ c h
            exact h'
          · cases h
        · cases h
      | _ => simp [getT] at h
    | r y =>
      have hr : ∀ (q : Pth) (y : R) (c : T), getT re (.r y) q = some c → ∃ z, c = .r z := by
        intro q
        induction q with
        | nil => intro y c h; simp [getT] at h; exact ⟨y, h.symm⟩
        | cons x q ih =>
          intro y c h
          cases y with
          | ro sz l => cases x with
            | e i sz' o =>
              simp only [getT] at h
              split at h
              · split at h
                · exact ih _ _ h
                · cases h
              · cases h
            | _ => simp [getT] at h
          | _ => cases x <;> simp [getT] at h
      obtain ⟨z, rfl⟩ := hr (x :: q) y c h
      exact h
  termination_by q => q
theorem killP_cells (r : Nat) (q : Pth) (r1 : Nat) (q1 : Pth) : (killP r q r1 q1).cells = [killP r q r1 q1] := by unfold killP; split <;> rfl
theorem killV_cells (r : Nat) (q : Pth) (r1 : Nat) (q1 : Pth) (sz : Nat) (wd : Option (Nat × Nat)) : (killV r q r1 q1 sz wd).cells = [killV r q r1 q1 sz wd] := by unfold killV; split <;> rfl
theorem sinkV_cells (r : Nat) (q : Pth) (r1 : Nat) (q1 : Pth) (sz : Nat) (wd : Option (Nat × Nat)) : (sinkV r q r1 q1 sz wd).cells = [sinkV r q r1 q1 sz wd] := by unfold sinkV; split <;> rfl
theorem sinkV_a {r q r' q' sz w l} : sinkV r q r' q' sz w ≠ .a l := by unfold sinkV; split <;> simp
theorem sinkV_r {r q r' q' sz w x} : sinkV r q r' q' sz w ≠ .r x := by unfold sinkV; split <;> simp
theorem Place.rc {L : Ly} {q : Pth} {x : R} {v : Value} (h : Place w RO Ls L q (.r x) v) : RC w RO x [v] := by
  rcases h with ⟨L', _, h⟩ | ⟨_, y, hy, h⟩
  · exact h.1
  · cases hy; exact h
theorem rel_drop {s1 : List T} {r : Nat} {q : Pth} {c : T} {tm : Array Value} (h : Rel w RO Ls s tm) (hlt : r < s.length) (hs : setP re (killAll r q s) r q c = some s1)
    (hc : c = .u ∨ ∃ x, c = .r x ∧ getP re s r q = some (.r x)) :
    ∃ L0 Ls1, Ls[r]? = some L0 ∧ Ls1 = Ls.set r (setLy L0 q .no) ∧ Rel w RO Ls1 s1 tm ∧ Ext w RO Ls [r] w RO Ls1 := by
  obtain ⟨L0, h0⟩ : ∃ L0, Ls[r]? = some L0 := ⟨Ls[r]'(by rw [h.lenL]; exact hlt), List.getElem?_eq_getElem _⟩
  refine ⟨L0, _, h0, rfl, ?_, ext_ghost h0 rfl (fun _ h => h) fun _ h => .inl h⟩
  refine rel_ghost (fp := killP r q) (fv := killV r q) h h0 rfl rfl (fun _ _ _ => killP_a) (fun _ _ _ => killP_r) (fun _ _ _ _ _ => killV_a) (fun _ _ _ _ _ => killV_r)
    (fun _ h => h) (fun _ h => .inl h) (fun rs => maps_kill h0 rs) hs (fun hq c0 v' hg hp => ?_) (fun hq hv => ?_)
  · rcases hc with rfl | ⟨x, rfl, hx⟩
    · exact rfl
    · have := getT_map (killP_cells r q) (killV_cells r q) q _ _ hx
      rw [this] at hg
      cases hg
      exact ⟨hp.rc, .inl rfl⟩
  · rcases hc with rfl | ⟨x, rfl, hx⟩
    · exact rfl
    · subst hq
      have e : ∀ t : T, getT re t [] = some t := fun t => by cases t <;> rfl
      have hx' : slot s r = .r x := by unfold getP at hx; rw [e] at hx; exact Option.some.inj hx
      rw [hx'] at hv
      exact ⟨hv.1, .inl rfl⟩
end
end Go.Os
set_option linter.unusedVariables false
namespace Go.Os
section
variable {P : Program} {w : World} {RO RO' : Nat → Prop} {Ls : List Ly} {a : Act} {s : List T}
theorem RC_mono (hro : ∀ g, RO g → RO' g) {x : R} {vs : List Value} (h : RC w RO x vs) : RC w RO' x vs := RC_frame (fun _ _ => rfl) hro x vs h
theorem RCE_mono (hro : ∀ g, RO g → RO' g) {sz g off : Nat} {l : List R} (h : RCE w RO sz g off l) : RCE w RO' sz g off l := RCE_frame (fun _ _ => rfl) hro sz g rfl off l h
theorem froL_len : ∀ {l : List T} {xs : List R}, froL l = some xs → xs.length = l.length
  | [], xs, h => by simp [froL] at h; subst h; rfl
  | t :: l, xs, h => by
    simp only [froL, Option.bind_eq_some_iff, Option.map_eq_some_iff] at h
    obtain ⟨x, _, ys, hy, rfl⟩ := h
    simp [froL_len hy]
mutual
theorem froR_ok (hro : ∀ g, RO g → RO' g) : ∀ (t : T) (vs : List Value) (L : Ly) (x : R), TC w RO Ls t vs L → froR t = some x → (∀ g ∈ L.bs, RO' g) → RC w RO' x vs
  | .r y, vs, L, x, h, hx, _ => by simp only [froR, Option.some.injEq] at hx; subst hx; exact RC_mono hro h.1
  | .own _ sz l, vs, L, x, h, hx, hb => by
    simp only [froR, Option.some.injEq] at hx; subst hx
    obtain ⟨_, ⟨h1, h2, _⟩ | ⟨g, cap, cur, e, hv, hL, _, hle, _, _, h4⟩⟩ := h
    · subst h1; exact ⟨none, 0, h2, by simp, .inl rfl⟩
    · exact ⟨_, cap, hv, hle, .inr ⟨g, 0, rfl, hb g (by rw [hL]; simp [Ly.bs]), RCE_mono hro h4⟩⟩
  | .ow sz l, vs, L, x, h, hx, hb => by
    simp only [froR, Option.map_eq_some_iff] at hx
    obtain ⟨xs, hxs, rfl⟩ := hx
    obtain ⟨_, g, cap, cur, e, cs, hv, hL, _, hle, _, _, h4⟩ := h
    have hlen := froL_len hxs
    exact ⟨_, cap, by rw [hlen]; exact hv, by omega, .inr ⟨g, 0, rfl, hb g (by rw [hL]; simp [Ly.bs]), froE_ok hro sz g 0 l cs xs h4 hxs fun k hk => hb k (by rw [hL]; simp [Ly.bs, hk])⟩⟩
  | .a l, vs, L, x, h, hx, hb => by
    simp only [froR, Option.map_eq_some_iff] at hx
    obtain ⟨xs, hxs, rfl⟩ := hx
    obtain ⟨cs, hL, h⟩ := h
    exact froC_ok hro l vs cs xs h hxs fun k hk => hb k (by rw [hL]; simpa [Ly.bs] using hk)
  | .u, _, _, _, _, hx, _ => by simp [froR] at hx
  | .bx _, _, _, _, _, hx, _ => by simp [froR] at hx
  | .p .., _, _, _, _, hx, _ => by simp [froR] at hx
  | .v .., _, _, _, _, hx, _ => by simp [froR] at hx
  | .cp .., _, _, _, _, hx, _ => by simp [froR] at hx
  | .f .., _, _, _, _, hx, _ => by simp [froR] at hx
  | .tp _ _, _, _, _, _, hx, _ => by simp [froR] at hx
  termination_by structural x => x
theorem froC_ok (hro : ∀ g, RO g → RO' g) : ∀ (l : List T) (vs : List Value) (cs : List Ly) (xs : List R), TCL w RO Ls l vs cs → froL l = some xs → (∀ g ∈ Ly.bsL cs, RO' g) → RCL w RO' xs vs
  | [], vs, cs, xs, h, hx, _ => by simp only [froL, Option.some.injEq] at hx; subst hx; exact h.1
  | t :: l, vs, cs, xs, h, hx, hb => by
    simp only [froL, Option.bind_eq_some_iff, Option.map_eq_some_iff] at hx
    obtain ⟨x, hx1, ys, hy, rfl⟩ := hx
    obtain ⟨v, vs', L, cs', hv, hc, h1, h2⟩ := h
    subst hc
    exact ⟨v, vs', hv, froR_ok hro t [v] L x h1 hx1 fun k hk => hb k (by simp [Ly.bsL, hk]), froC_ok hro l vs' cs' ys h2 hy fun k hk => hb k (by simp [Ly.bsL, hk])⟩
  termination_by structural x => x
theorem froE_ok (hro : ∀ g, RO g → RO' g) (sz g : Nat) : ∀ (off : Nat) (l : List T) (cs : List Ly) (xs : List R), TCE w RO Ls sz g off l cs → froL l = some xs → (∀ k ∈ Ly.bsL cs, RO' k) → RCE w RO' sz g off xs
  | off, [], cs, xs, h, hx, _ => by simp only [froL, Option.some.injEq] at hx; subst hx; trivial
  | off, t :: l, cs, xs, h, hx, hb => by
    simp only [froL, Option.bind_eq_some_iff, Option.map_eq_some_iff] at hx
    obtain ⟨x, hx1, ys, hy, rfl⟩ := hx
    obtain ⟨vs, L, cs', h1, h2, hc, h3, h4, h5⟩ := h
    subst hc
    rw [bsL_append, bs_un] at hb
    exact ⟨⟨vs, h1, h3, froR_ok hro t vs L x h4 hx1 fun k hk => hb k (by simp [hk])⟩, froE_ok hro sz g (off + sz) l cs' ys h5 hy fun k hk => hb k (by simp [hk])⟩
  termination_by structural _ x => x
end
mutual
theorem froR_map {fp : Nat → Pth → T} {fv : Nat → Pth → Nat → Option (Nat × Nat) → T} : ∀ (t : T) (x : R), froR t = some x → mapT fp fv t = t
  | .r y, _, _ => rfl
  | .own _ sz l, _, _ => rfl
  | .ow sz l, x, h => by
    simp only [froR, Option.map_eq_some_iff] at h
    obtain ⟨xs, hxs, _⟩ := h
    simp only [mapT, froL_map l xs hxs]
  | .a l, x, h => by
    simp only [froR, Option.map_eq_some_iff] at h
    obtain ⟨xs, hxs, _⟩ := h
    simp only [mapT, froL_map l xs hxs]
  | .u, _, h => by simp [froR] at h
  | .bx _, _, h => by simp [froR] at h
  | .p .., _, h => by simp [froR] at h
  | .v .., _, h => by simp [froR] at h
  | .cp .., _, h => by simp [froR] at h
  | .f .., _, h => by simp [froR] at h
  | .tp _ _, _, h => by simp [froR] at h
  termination_by structural x => x
theorem froL_map {fp : Nat → Pth → T} {fv : Nat → Pth → Nat → Option (Nat × Nat) → T} : ∀ (l : List T) (xs : List R), froL l = some xs → mapL fp fv l = l
  | [], _, _ => rfl
  | t :: l, xs, h => by
    simp only [froL, Option.bind_eq_some_iff, Option.map_eq_some_iff] at h
    obtain ⟨x, hx1, ys, hy, rfl⟩ := h
    simp only [mapL, froR_map t x hx1, froL_map l ys hy]
  termination_by structural x => x
end
theorem setLy_self : ∀ (q : Pth) (L L1 : Ly), lyAt L q = some L1 → setLy L q L1 = L
  | [], L, L1, h => by rw [lyAt_nil] at h; cases h; exact setLy_nil _ _
  | x :: q, L, L1, h => by
    rw [lyAt_cons, Option.bind_eq_some_iff] at h
    obtain ⟨K, hK, h⟩ := h
    have ih := setLy_self q K L1 h
    have key : ∀ (cs : List Ly) (k : Nat), cs[k]? = some K → (cs.modify k fun L => setLy L q L1) = cs := by
      intro cs k hk
      apply List.ext_getElem?
      intro i
      rw [modify_get]
      split
      · rename_i e; subst e; rw [hk]; simp [ih]
      · rfl
    cases L <;> cases x <;> simp only [kid] at hK <;> first | cases hK | (simp only [setLy, key _ _ hK])
def fzLy : Ly → Ly
  | .bl g off n cap _ => .fz g off n cap
  | L => L
theorem rel_freeze {s1 : List T} {r : Nat} {q : Pth} {sz : Nat} {xs : List R} {t : T} {tm : Array Value} (h : Rel w RO Ls s tm) (hlt : r < s.length) (hg : getP re s r q = some t)
    (hs : (∃ fl, t = .own fl sz xs ∧ setP re s r q (.r (.ro sz xs)) = some s1) ∨ (∃ l, t = .ow sz l ∧ froL l = some xs ∧ setP re (sinkAll r q s) r q (.r (.ro sz xs)) = some s1)) :
    ∃ L0 L1 Ls1 RO1, Ls[r]? = some L0 ∧ lyAt L0 q = some L1 ∧ Ls1 = Ls.set r (setLy L0 q (fzLy L1)) ∧ (∀ g, RO1 g ↔ (RO g ∨ g ∈ L1.bs)) ∧ Rel w RO1 Ls1 s1 tm ∧ Ext w RO Ls [r] w RO1 Ls1 := by
  obtain ⟨L0, h0⟩ : ∃ L0, Ls[r]? = some L0 := ⟨Ls[r]'(by rw [h.lenL]; exact hlt), List.getElem?_eq_getElem _⟩
  have hlt' : r < Ls.length := (List.getElem?_eq_some_iff.1 h0).1
  have hL0 : Ls.getD r .no = L0 := by simp [List.getD_eq_getElem?_getD, h0]
  have hown : ∃ v' L1, lyAt L0 q = some L1 ∧ TC w RO Ls t [v'] L1 := by
    have hj := h.slot r
    rw [hL0] at hj
    rcases getV_ok hj hg with ⟨hq, ht⟩ | ⟨hq, v', h1, _⟩
    · subst hq
      refine ⟨tm.getD r undef, L0, lyAt_nil _, ?_⟩
      rw [ht]
      have : cellT (slot s r) = true := by rw [← ht]; rcases hs with ⟨fl, rfl, _⟩ | ⟨l, rfl, _⟩ <;> rfl
      exact TC_of_TV this hj
    · rcases h1 with ⟨L1, h1, h2⟩ | ⟨_, x, hx, _⟩
      · exact ⟨v', L1, h1, h2⟩
      · rcases hs with ⟨fl, rfl, _⟩ | ⟨l, rfl, _⟩ <;> cases hx
  obtain ⟨v', L1, hL1, hT⟩ := hown
  have shape : (L1 = .nl ∧ ∃ fl, t = .own fl sz []) ∨ ∃ g off n cap cs, L1 = .bl g off n cap cs ∧ ((∃ fl, t = .own fl sz xs ∧ cs = []) ∨ ∃ l, t = .ow sz l) := by
    rcases hs with ⟨fl, rfl, _⟩ | ⟨l, rfl, _⟩
    · obtain ⟨_, ⟨h1, _, h2⟩ | ⟨g, cap, cur, e, hv, hL, _⟩⟩ := hT
      · exact .inl ⟨h2, fl, by rw [h1]⟩
      · exact .inr ⟨g, 0, _, cap, [], hL, .inl ⟨fl, rfl, rfl⟩⟩
    · obtain ⟨_, g, cap, cur, e, cs, hv, hL, _⟩ := hT
      exact .inr ⟨g, 0, _, cap, cs, hL, .inr ⟨l, rfl⟩⟩
  have hNu : (fzLy L1).un = [fzLy L1] := by
    rcases shape with ⟨rfl, _⟩ | ⟨g, off, n, cap, cs, rfl, _⟩ <;> rfl
  have hNb : (fzLy L1).bs = [] := by
    rcases shape with ⟨rfl, _⟩ | ⟨g, off, n, cap, cs, rfl, _⟩ <;> simp [fzLy, Ly.bs]
  have hout := setLy_out q L0 (fzLy L1) L1 hNb (nodup_of_get h.nodup h0) hL1
  have hro : ∀ g, RO g → (RO g ∨ g ∈ L1.bs) := fun g hg => .inl hg
  have hro' : ∀ g, (RO g ∨ g ∈ L1.bs) → RO g ∨ (g ∈ L0.bs ∧ g ∉ (setLy L0 q (fzLy L1)).bs) := fun g hg => hg.imp id fun hg => ⟨lyAt_bs q L0 L1 hL1 g hg, hout g hg⟩
  have hval : ∀ (Ls1 : List Ly) (fp : Nat → Pth → T) (fv : Nat → Pth → Nat → Option (Nat × Nat) → T) v1, TC w (fun g => RO g ∨ g ∈ L1.bs) Ls1 (mapT fp fv t) [v1] L1 → TC w (fun g => RO g ∨ g ∈ L1.bs) Ls1 (.r (.ro sz xs)) [v1] (fzLy L1) := by
    intro Ls1 fp fv v1 hT1
    rcases hs with ⟨fl, rfl, _⟩ | ⟨l, rfl, hxs, _⟩
    · have hR := froR_ok (RO' := fun g => RO g ∨ g ∈ L1.bs) (fun _ h => h) _ _ _ (.ro sz xs) hT1 rfl (fun g hg => .inr hg)
      refine ⟨hR, .inr ⟨⟨sz, xs, rfl⟩, ?_⟩⟩
      obtain ⟨_, ⟨h1, h2, h3⟩ | ⟨g, cap, cur, e, hv, hL, _⟩⟩ := hT1
      · exact .inl ⟨h2, by rw [h3]; rfl⟩
      · exact .inr ⟨g, 0, _, cap, hv, by rw [hL]; rfl⟩
    · have hx : froR (.ow sz l) = some (.ro sz xs) := by simp [froR, hxs]
      rw [froR_map _ _ hx] at hT1
      have hR := froR_ok (RO' := fun g => RO g ∨ g ∈ L1.bs) (fun _ h => h) _ _ _ _ hT1 hx (fun g hg => .inr hg)
      refine ⟨hR, .inr ⟨⟨sz, xs, rfl⟩, ?_⟩⟩
      obtain ⟨_, g, cap, cur, e, cs, hv, hL, _⟩ := hT1
      exact .inr ⟨g, 0, _, cap, hv, by rw [hL]; rfl⟩
  refine ⟨L0, L1, _, fun g => RO g ∨ g ∈ L1.bs, h0, hL1, rfl, fun g => Iff.rfl, ?_, ext_ghost h0 hNb hro hro'⟩
  have hplace : ∀ (Ls1 : List Ly) (fp : Nat → Pth → T) (fv : Nat → Pth → Nat → Option (Nat × Nat) → T) c0 v1, (∀ r q, (fp r q).cells = [fp r q]) → (∀ r q sz wd, (fv r q sz wd).cells = [fv r q sz wd]) →
      getT re (mapT fp fv (slot s r)) q = some c0 → Place w (fun g => RO g ∨ g ∈ L1.bs) Ls1 L0 q c0 v1 → TC w (fun g => RO g ∨ g ∈ L1.bs) Ls1 (.r (.ro sz xs)) [v1] (fzLy L1) := by
    intro Ls1 fp fv c0 v1 hcp hcv hg0 hp
    have := getT_map hcp hcv q _ _ hg
    rw [this] at hg0; cases hg0
    refine hval Ls1 fp fv v1 ?_
    rcases hp with ⟨L', h1, h2⟩ | ⟨h1, x, hx, _⟩
    · rw [hL1] at h1; cases h1; exact h2
    · rw [hL1] at h1; cases h1
  have hslot : ∀ (Ls1 : List Ly) (fp : Nat → Pth → T) (fv : Nat → Pth → Nat → Option (Nat × Nat) → T), q = [] → TV w (fun g => RO g ∨ g ∈ L1.bs) Ls1 (mapT fp fv (slot s r)) (tm.getD r undef) L0 →
      TV w (fun g => RO g ∨ g ∈ L1.bs) Ls1 (.r (.ro sz xs)) (tm.getD r undef) (fzLy L1) := by
    intro Ls1 fp fv hq hv
    subst hq
    have e : ∀ t : T, getT re t [] = some t := fun t => by cases t <;> rfl
    have ht : slot s r = t := by unfold getP at hg; rw [e] at hg; exact Option.some.inj hg
    rw [lyAt_nil] at hL1; cases hL1
    rw [ht] at hv
    have hct : cellT (mapT fp fv t) = true := by rcases hs with ⟨fl, rfl, _⟩ | ⟨l, rfl, _⟩ <;> rfl
    have := hval Ls1 fp fv _ (TC_of_TV hct hv)
    exact TV_of_cell rfl this
  rcases hs with ⟨fl, rfl, hs⟩ | ⟨l, rfl, hxs, hs⟩
  · refine rel_ghost (fp := .p) (fv := .v) h h0 hNu hNb (by simp) (by simp) (by simp) (by simp) hro hro' (fun rs => ?_) (by rw [mapL_id]; exact hs) (fun hq c0 v1 => hplace _ .p .v c0 v1 (by intros; rfl) (by intros; rfl)) (fun hq => hslot _ .p .v hq)
    rcases shape with ⟨hnl, _⟩ | ⟨g, off, n, cap, cs, hbl, ⟨fl', _, rfl⟩ | ⟨l, hl⟩⟩
    · subst hnl
      have : Ls.set r (setLy L0 q (fzLy .nl)) = Ls := by
        rw [show fzLy .nl = .nl from rfl, setLy_self q L0 .nl hL1]
        apply List.ext_getElem?
        intro i
        by_cases e : i = r
        · subst e; rw [List.getElem?_set_self hlt', h0]
        · rw [List.getElem?_set_ne (Ne.symm e)]
      rw [this]
      exact Maps.keeps fun r _ L0 h0 _ => h0
    · subst hbl
      refine ⟨fun r1 _ q1 M g1 o1 h1 h2 => ?_, fun r1 _ q1 sz1 wd M L2 x h1 h2 h3 => ?_⟩
      · by_cases e : r = r1
        · subst e
          rw [h0] at h1; cases h1
          exact ⟨rfl, _, g1, o1, by simp [hlt', fzLy], ad_fz q L0 q1 _ hL1 h2, rfl⟩
        · exact ⟨rfl, M, g1, o1, by rw [List.getElem?_set_ne e]; exact h1, h2, rfl⟩
      · by_cases e : r = r1
        · subst e
          rw [h0] at h1; cases h1
          obtain ⟨L2', h4, h5⟩ := ly_fz q L0 q1 L2 hL1 h2 (.inl rfl)
          exact ⟨rfl, _, L2', x, by simp [hlt', fzLy], h4, rfl, viewV_top h5 h3⟩
        · exact ⟨rfl, M, L2, x, by rw [List.getElem?_set_ne e]; exact h1, h2, rfl, h3⟩
    · cases hl
  · refine rel_ghost (fp := killP r q) (fv := sinkV r q) h h0 hNu hNb (fun _ _ _ => killP_a) (fun _ _ _ => killP_r) (fun _ _ _ _ _ => sinkV_a) (fun _ _ _ _ _ => sinkV_r) hro hro' (fun rs => ?_) hs
      (fun hq c0 v1 => hplace _ _ _ c0 v1 (killP_cells r q) (sinkV_cells r q)) (fun hq => hslot _ _ _ hq)
    rcases shape with ⟨_, fl, hnl⟩ | ⟨g, off, n, cap, cs, hbl, _⟩
    · cases hnl
    · subst hbl
      refine ⟨fun r1 _ q1 M g1 o1 h1 h2 => (maps_kill (w := w) (RO' := fun g => RO g ∨ g ∈ (Ly.bl _ off n cap cs).bs) (q := q) (N := fzLy (.bl g off n cap cs)) h0 [r1]).p r1 (by simp) q1 M g1 o1 h1 h2, fun r1 _ q1 sz1 wd M L2 x h1 h2 h3 => ?_⟩
      unfold sinkV
      cases hh : hangsP r q r1 q1 with
      | true => exact rfl
      | false =>
        by_cases e : r = r1
        · subst e
          rw [h0] at h1; cases h1
          by_cases hp : pre q q1 = true
          · obtain ⟨L2', h4, h5⟩ := ly_fz q L0 q1 L2 hL1 h2 (.inr (by simpa [hangsP, hp] using hh))
            exact ⟨rfl, _, L2', x, by simp [hlt', fzLy], h4, rfl, viewV_top h5 h3⟩
          · obtain ⟨L2', h4, h5⟩ := ly_set q L0 (fzLy (.bl g off n cap cs)) q1 L2 h2 (by simpa using hp)
            exact ⟨rfl, _, L2', x, by simp [hlt', fzLy], h4, rfl, viewV_top h5 h3⟩
        · exact ⟨rfl, M, L2, x, by rw [List.getElem?_set_ne e]; exact h1, h2, rfl, h3⟩
end
end Go.Os
set_option linter.unusedVariables false
namespace Go.Os
section
variable {P : Program} {w : World} {RO RO' : Nat → Prop} {Ls : List Ly} {s : List T} {tm : Array Value}
def BlkAt (Ls : List Ly) (p : Nat × Pth) (g : Nat) : Prop := ∃ L0 L1, Ls[p.1]? = some L0 ∧ lyAt L0 p.2 = some L1 ∧ g ∈ L1.bs
theorem rel_place (h : Rel w RO Ls s tm) {r : Nat} {q : Pth} {c : T} (hc : getP re s r q = some c) (h1 : cellT c = true) {L0 L1 : Ly} (h0 : Ls[r]? = some L0) (hl : lyAt L0 q = some L1) :
    ∃ v', TC w RO Ls c [v'] L1 := Rel.place (a := { tmps := tm, defers := [] }) h hc h1 h0 hl
theorem content_F (hro : ∀ g, RO g → RO' g) {sz : Nat} {c : T} {l : List R} {v' : Value} {L1 : Ly} (hT : TC w RO Ls c [v'] L1) (hl : listF sz c = some l) (hb : isOwn c = true → ∀ g ∈ L1.bs, RO' g) :
    (L1 = .nl ∧ l = []) ∨ (∃ g off cap, (L1 = .fz g off l.length cap ∨ ∃ cs, L1 = .bl g off l.length cap cs) ∧ l.length ≤ cap ∧ (l = [] ∨ (RO' g ∧ RCE w RO' sz g off l))) ∨ L1 = .no := by
  unfold listF at hl
  split at hl
  · rename_i z l0
    split at hl
    · rename_i hz
      have hz := eq_of_beq hz
      subst hz
      have hlen := froL_len hl
      obtain ⟨_, g, cap, cur, e, cs, hv, hL, _, hle, _, _, h4⟩ := hT
      refine .inr (.inl ⟨g, 0, cap, .inr ⟨cs, by rw [hlen]; exact hL⟩, by omega, .inr ⟨hb rfl g (by rw [hL]; simp [Ly.bs]), ?_⟩⟩)
      exact froE_ok hro z g 0 l0 cs l h4 hl fun k hk => hb rfl k (by rw [hL]; simp [Ly.bs, hk])
    · cases hl
  · unfold listOf at hl
    split at hl
    · rename_i fl z l0 _
      split at hl
      · rename_i hz
        cases hl
        have hz := eq_of_beq hz
        subst hz
        obtain ⟨_, ⟨h1, _, h2⟩ | ⟨g, cap, cur, e, _, hL, _, hle, _, _, h4⟩⟩ := hT
        · exact .inl ⟨h2, h1⟩
        · exact .inr (.inl ⟨g, 0, cap, .inr ⟨[], hL⟩, hle, .inr ⟨hb rfl g (by rw [hL]; simp [Ly.bs]), RCE_mono hro h4⟩⟩)
      · cases hl
    · rename_i z l0 _
      split at hl
      · rename_i hz
        cases hl
        have hz := eq_of_beq hz
        subst hz
        obtain ⟨⟨ad, cap, hv, hcap, hr⟩, hm⟩ := hT
        rcases hm with hm | ⟨_, ⟨hv2, hm⟩ | ⟨g, off, n, cap2, hv2, hm⟩⟩
        · exact .inr (.inr hm)
        · rw [hv2] at hv
          simp only [List.cons.injEq, Value.slice.injEq, and_true] at hv
          exact .inl ⟨hm, List.eq_nil_of_length_eq_zero hv.2.1.symm⟩
        · rw [hv2] at hv
          simp only [List.cons.injEq, Value.slice.injEq, and_true] at hv
          obtain ⟨rfl, rfl, rfl⟩ := hv
          refine .inr (.inl ⟨g, off, cap2, .inl hm, hcap, ?_⟩)
          rcases hr with hr | ⟨g', off', h1, h3, h2⟩
          · exact .inl hr
          · cases h1; exact .inr ⟨hro _ h3, RCE_mono hro h2⟩
      · cases hl
    · cases hl
theorem frz_view (h : Rel w RO Ls s tm) (hro : ∀ g, RO g → RO' g) {E : Env} (hE : E.A = re) {r : Nat} {q : Pth} {sz : Nat} {wd : Option (Nat × Nat)} {v : Value} {L : Ly} (hT : TC w RO Ls (.v r q sz wd) [v] L)
    {l : List R} (hx : elemsF E s (.v r q sz wd) = some l) (hb : ∀ p ∈ lent E s (.v r q sz wd), ∀ g, BlkAt Ls p g → RO' g) : RC w RO' (.ro sz l) [v] := by
  obtain ⟨_, L0, L1, v1, h0, h1, hv, hw⟩ := hT
  simp only [List.cons.injEq, and_true] at hv
  subst hv
  simp only [elemsF, Option.map_eq_some_iff, Option.bind_eq_some_iff, hE] at hx
  obtain ⟨l0, ⟨c, hc, hl⟩, rfl⟩ := hx
  have hct : cellT c = true := by
    unfold listF listOf at hl
    split at hl
    · rfl
    · split at hl <;> first | rfl | cases hl
  obtain ⟨v', hTC⟩ := rel_place h hc hct h0 h1
  have hbo : isOwn c = true → ∀ g ∈ L1.bs, RO' g := by
    intro ho g hg
    refine hb (r, q) ?_ g ⟨L0, L1, h0, h1, hg⟩
    simp [lent, hE, hc, ho]
  have hbar := viewV_bar hw
  have hcon := content_F hro hTC hl hbo
  cases wd with
  | none =>
    show RC w RO' (.ro sz l0) [v]
    rcases hcon with ⟨hL, rfl⟩ | ⟨g, off, cap, hL, hcap, hr⟩ | hL
    · subst hL
      exact ⟨none, 0, by rw [show v = _ from hw]; rfl, by simp, .inl rfl⟩
    · refine ⟨some ⟨g, off, none⟩, cap, ?_, hcap, hr.imp id fun h => ⟨g, off, rfl, h.1, h.2⟩⟩
      rcases hL with hL | ⟨cs, hL⟩ <;> (subst hL; rw [show v = _ from hw])
    · subst hL; simp [Ly.bar] at hbar
  | some x =>
    obtain ⟨o, n⟩ := x
    obtain ⟨_, _, ad, cap, hv, hncap, hn⟩ := hw
    have hsg : segW E l0 (some (o, n)) = (l0.drop o).take n := by simp [segW, hE, re]
    rw [hsg]
    rcases hn with hn | ⟨g, off, m, cp, hL, had, hle⟩
    · subst hn
      exact ⟨ad, cap, by rw [hv]; simp, by simp, .inl (by simp)⟩
    · rcases hcon with ⟨hL', rfl⟩ | ⟨g', off', cap', hL', _, hr⟩ | hL'
      · subst hL'; rcases hL with hL | ⟨cs, hL⟩ <;> cases hL
      · have : g = g' ∧ off = off' ∧ m = l0.length := by
          rcases hL with hL | ⟨cs, hL⟩ <;> rcases hL' with hL' | ⟨cs', hL'⟩ <;> rw [hL] at hL' <;> cases hL' <;> exact ⟨rfl, rfl, rfl⟩
        obtain ⟨rfl, rfl, rfl⟩ := this
        have hlen : ((l0.drop o).take n).length = n := by simp; omega
        refine ⟨ad, cap, by rw [hlen, hv], by rw [hlen]; exact hncap, ?_⟩
        rcases hr with hr | hr
        · subst hr; exact .inl (by simp)
        · exact .inr ⟨g, off + o * sz, had, hr.1, RCE_take n (RCE_drop o hr.2)⟩
      · subst hL'; rcases hL with hL | ⟨cs, hL⟩ <;> cases hL
mutual
theorem frz_okC (h : Rel w RO Ls s tm) (hro : ∀ g, RO g → RO' g) {E : Env} (hE : E.A = re) : ∀ (t : T) (vs : List Value) (L : Ly) (x : R), TC w RO Ls t vs L → frz E s t = some x →
    (∀ p ∈ lent E s t, ∀ g, BlkAt Ls p g → RO' g) → RC w RO' x vs
  | .r y, vs, L, x, hT, hx, _ => by simp only [frz, Option.some.injEq] at hx; subst hx; exact RC_mono hro hT.1
  | .v r q sz wd, vs, L, x, hT, hx, hb => by
    simp only [frz, Option.map_eq_some_iff] at hx
    obtain ⟨l, hl, rfl⟩ := hx
    obtain ⟨hL, L0, L1, v, h0, h1, hv, hw⟩ := hT
    subst hv
    exact frz_view h hro hE ⟨hL, L0, L1, v, h0, h1, rfl, hw⟩ hl hb
  | .a l, vs, L, x, hT, hx, hb => by
    simp only [frz, Option.map_eq_some_iff] at hx
    obtain ⟨xs, hxs, rfl⟩ := hx
    obtain ⟨cs, hL, hT⟩ := hT
    exact frzL_okC h hro hE l vs cs xs hT hxs hb
  | .u, _, _, _, _, hx, _ => by simp [frz] at hx
  | .own .., _, _, _, _, hx, _ => by simp [frz] at hx
  | .ow .., _, _, _, _, hx, _ => by simp [frz] at hx
  | .bx _, _, _, _, _, hx, _ => by simp [frz] at hx
  | .p .., _, _, _, _, hx, _ => by simp [frz] at hx
  | .cp .., _, _, _, _, hx, _ => by simp [frz] at hx
  | .f .., _, _, _, _, hx, _ => by simp [frz] at hx
  | .tp _ _, _, _, _, _, hx, _ => by simp [frz] at hx
  termination_by structural x => x
theorem frzL_okC (h : Rel w RO Ls s tm) (hro : ∀ g, RO g → RO' g) {E : Env} (hE : E.A = re) : ∀ (l : List T) (vs : List Value) (cs : List Ly) (xs : List R), TCL w RO Ls l vs cs → frzL E s l = some xs →
    (∀ p ∈ lentL E s l, ∀ g, BlkAt Ls p g → RO' g) → RCL w RO' xs vs
  | [], vs, cs, xs, hT, hx, _ => by simp only [frzL, Option.some.injEq] at hx; subst hx; exact hT.1
  | t :: l, vs, cs, xs, hT, hx, hb => by
    simp only [frzL, Option.bind_eq_some_iff, Option.map_eq_some_iff] at hx
    obtain ⟨x, hx1, ys, hy, rfl⟩ := hx
    obtain ⟨v, vs', L, cs', hv, hc, h1, h2⟩ := hT
    exact ⟨v, vs', hv, frz_okC h hro hE t [v] L x h1 hx1 fun p hp => hb p (by simp [lentL, hp]), frzL_okC h hro hE l vs' cs' ys h2 hy fun p hp => hb p (by simp [lentL, hp])⟩
  termination_by structural x => x
end
theorem frz_ok (h : Rel w RO Ls s tm) (hro : ∀ g, RO g → RO' g) {E : Env} (hE : E.A = re) {t : T} {v : Value} {L : Ly} {x : R} (hT : TV w RO Ls t v L) (hx : frz E s t = some x)
    (hb : ∀ p ∈ lent E s t, ∀ g, BlkAt Ls p g → RO' g) : RV w RO' x v := by
  cases t with
  | a l =>
    simp only [frz, Option.map_eq_some_iff] at hx
    obtain ⟨xs, hxs, rfl⟩ := hx
    obtain ⟨vs, cs, hv, hL, hT⟩ := hT
    exact ⟨vs, hv, frzL_okC h hro hE l vs.toList cs xs hT hxs hb⟩
  | r y => simp only [frz, Option.some.injEq] at hx; subst hx; exact RV_frame (fun _ _ => rfl) hro hT.1
  | v r q sz wd =>
    simp only [frz, Option.map_eq_some_iff] at hx
    obtain ⟨l, hl, rfl⟩ := hx
    exact frz_view h hro hE hT hl hb
  | _ => simp [frz] at hx
theorem bs_keep {g : Nat} {N Lq : Ly} : ∀ (q : Pth) (L : Ly), lyAt L q = some Lq → g ∈ L.bs → g ∈ Lq.bs ∨ g ∈ (setLy L q N).bs
  | [], L, hq, hg => by rw [lyAt_nil] at hq; cases hq; exact .inl hg
  | x :: q, L, hq, hg => by
    rw [lyAt_cons, Option.bind_eq_some_iff] at hq
    obtain ⟨K, hK, hq⟩ := hq
    have key : ∀ (cs : List Ly) (k : Nat), cs[k]? = some K → g ∈ Ly.bsL cs → g ∈ Lq.bs ∨ g ∈ Ly.bsL (cs.modify k fun L => setLy L q N) := by
      intro cs k hk hg
      obtain ⟨j, M, hj, hgM⟩ := mem_bsL_get hg
      by_cases e : k = j
      · subst e
        rw [hk] at hj; cases hj
        rcases bs_keep q K hq hgM with h | h
        · exact .inl h
        · exact .inr (bsL_get (j := k) (by rw [modify_get, if_pos rfl, hk]; rfl) g h)
      · exact .inr (bsL_get (j := j) (by rw [modify_get, if_neg e]; exact hj) g hgM)
    cases L with
    | bl g' off n cap cs =>
      simp only [Ly.bs, List.mem_cons] at hg
      cases x <;> simp only [kid] at hK
      case t => cases hK
      all_goals
        simp only [setLy, Ly.bs, List.mem_cons]
        rcases hg with hg | hg
        · exact .inr (.inl hg)
        · exact (key _ _ hK hg).imp id .inr
    | ag cs =>
      simp only [Ly.bs] at hg
      cases x <;> simp only [kid] at hK
      case t => simp only [setLy, Ly.bs]; exact key _ _ hK hg
      all_goals cases hK
    | _ => cases x <;> simp [kid] at hK
theorem ly_keep {g : Nat} {N Lq L1 : Ly} : ∀ (q : Pth) (L : Ly) (q' : Pth), lyAt L q = some Lq → lyAt L q' = some L1 → g ∈ L1.bs → g ∈ Lq.bs ∨ ∃ L1', lyAt (setLy L q N) q' = some L1' ∧ g ∈ L1'.bs
  | [], L, q', hq, h, hg => by rw [lyAt_nil] at hq; cases hq; exact .inl (lyAt_bs q' _ _ h g hg)
  | x :: q, L, [], hq, h, hg => by
    rw [lyAt_nil] at h; cases h
    rcases bs_keep (N := N) (x :: q) _ hq hg with h | h
    · exact .inl h
    · exact .inr ⟨_, lyAt_nil _, h⟩
  | x :: q, L, y :: q', hq, h, hg => by
    rw [lyAt_cons, Option.bind_eq_some_iff] at h
    obtain ⟨K, hK, h⟩ := h
    obtain ⟨K', hK', h1 | ⟨h1, h2, h3⟩⟩ := kid_set (x := x) (q := q) (N := N) hK
    · exact .inr ⟨L1, by rw [lyAt_cons, hK', h1]; exact h, hg⟩
    · rw [lyAt_cons, h2] at hq
      rw [lyAt_cons, hK', h1]
      exact ly_keep q K q' hq h hg
theorem getP_lt {s : List T} {r : Nat} {q : Pth} {t : T} (h : getP re s r q = some t) (ht : t ≠ .u) : r < s.length := by
  rcases Nat.lt_or_ge r s.length with hlt | hge
  · exact hlt
  · unfold getP at h
    rw [slot_ge hge] at h
    cases q with
    | nil => simp [getT] at h; exact absurd h.symm ht
    | cons x q => cases x <;> simp [getT] at h
theorem freezeAll_W {E : Env} : ∀ (l : List (Nat × Pth)) (s : List T) (W : List Nat) (e : Eff), freezeAll E s W l = some e → ∀ x ∈ W, x ∈ e.2
  | [], s, W, e, h, x, hx => by simp only [freezeAll, Option.some.injEq] at h; subst h; exact hx
  | p :: l, s, W, e, h, x, hx => by
    simp only [freezeAll, Option.bind_eq_some_iff] at h
    obtain ⟨t, ht, h⟩ := h
    split at h
    · simp only [Option.bind_eq_some_iff] at h
      obtain ⟨s1, _, h⟩ := h
      exact freezeAll_W l s1 _ e h x (by simp [hx])
    · simp only [Option.bind_eq_some_iff] at h
      obtain ⟨ys, _, s1, _, h⟩ := h
      exact freezeAll_W l s1 _ e h x (by simp [hx])
    · exact freezeAll_W l s W e h x hx
    · cases h
theorem freezeAll_ok {E : Env} (hE : E.A = re) : ∀ (l : List (Nat × Pth)) (s : List T) (W : List Nat) (e : Eff) (RO : Nat → Prop) (Ls : List Ly), Rel w RO Ls s tm → freezeAll E s W l = some e →
    ∃ RO1 Ls1, Rel w RO1 Ls1 e.1 tm ∧ Ext w RO Ls e.2 w RO1 Ls1 ∧ ∀ p ∈ l, ∀ g, BlkAt Ls p g → RO1 g
  | [], s, W, e, RO, Ls, h, hf => by
    simp only [freezeAll, Option.some.injEq] at hf; subst hf
    exact ⟨RO, Ls, h, (Ext.refl _ _ _).mono (by simp), by simp⟩
  | p :: l, s, W, e, RO, Ls, h, hf => by
    simp only [freezeAll, Option.bind_eq_some_iff, hE] at hf
    obtain ⟨t, ht, hf⟩ := hf
    have step : ∀ (s1 : List T) (W1 : List Nat) (sz : Nat) (xs : List R), t ≠ .u →
        ((∃ fl, t = .own fl sz xs ∧ setP re s p.1 p.2 (.r (.ro sz xs)) = some s1) ∨ (∃ l, t = .ow sz l ∧ froL l = some xs ∧ setP re (sinkAll p.1 p.2 s) p.1 p.2 (.r (.ro sz xs)) = some s1)) →
        p.1 ∈ W1 → freezeAll E s1 W1 l = some e →
        ∃ RO1 Ls1, Rel w RO1 Ls1 e.1 tm ∧ Ext w RO Ls e.2 w RO1 Ls1 ∧ ∀ p' ∈ p :: l, ∀ g, BlkAt Ls p' g → RO1 g := by
      intro s1 W1 sz xs htu hs hW hf
      obtain ⟨L0, L1, Ls1, RO1, h0, h1, hLs1, hRO1, hR1, hX1⟩ := rel_freeze h (getP_lt ht htu) ht hs
      obtain ⟨RO2, Ls2, hR2, hX2, hb2⟩ := freezeAll_ok hE l s1 W1 e RO1 Ls1 hR1 hf
      refine ⟨RO2, Ls2, hR2, (hX1.trans hR1.nodup hX2).mono fun x hx => ?_, fun p' hp' g hg => ?_⟩
      · simp only [List.mem_append, List.mem_singleton] at hx
        rcases hx with hx | hx
        · rw [hx]; exact freezeAll_W l s1 W1 e hf _ hW
        · exact hx
      · obtain ⟨M0, M1, hM0, hM1, hgM⟩ := hg
        simp only [List.mem_cons] at hp'
        have keep : g ∈ L1.bs ∨ BlkAt Ls1 p' g := by
          by_cases e : p'.1 = p.1
          · rw [e, h0] at hM0; cases hM0
            rcases ly_keep (N := fzLy L1) p.2 L0 p'.2 h1 hM1 hgM with h | ⟨L1', h2, h3⟩
            · exact .inl h
            · exact .inr ⟨_, L1', by rw [hLs1, e, List.getElem?_set_self (List.getElem?_eq_some_iff.1 h0).1], h2, h3⟩
          · exact .inr ⟨M0, M1, by rw [hLs1, List.getElem?_set_ne (Ne.symm e)]; exact hM0, hM1, hgM⟩
        rcases keep with hk | hk
        · exact hX2.ro g ((hRO1 g).2 (.inr hk))
        · rcases hp' with rfl | hp'
          · rw [h0] at hM0; cases hM0
            rw [h1] at hM1; cases hM1
            exact hX2.ro g ((hRO1 g).2 (.inr hgM))
          · exact hb2 p' hp' g hk
    split at hf
    · rename_i fl sz xs
      simp only [Option.bind_eq_some_iff] at hf
      obtain ⟨s1, hs1, hf⟩ := hf
      exact step s1 _ sz xs (by simp) (.inl ⟨fl, rfl, hs1⟩) (by simp) hf
    · rename_i sz xs
      simp only [Option.bind_eq_some_iff] at hf
      obtain ⟨ys, hys, s1, hs1, hf⟩ := hf
      exact step s1 _ sz ys (by simp) (.inr ⟨xs, rfl, hys, hs1⟩) (by simp) hf
    · rename_i x
      obtain ⟨RO1, Ls1, hR, hX, hb⟩ := freezeAll_ok hE l s W e RO Ls h hf
      refine ⟨RO1, Ls1, hR, hX, fun p' hp' g hg => ?_⟩
      simp only [List.mem_cons] at hp'
      rcases hp' with rfl | hp'
      · exfalso
        obtain ⟨L0, L1, h0, h1, hg⟩ := hg
        have hj := h.slot p'.1
        have hL0 : Ls.getD p'.1 .no = L0 := by simp [List.getD_eq_getElem?_getD, h0]
        rw [hL0] at hj
        have hnb : ∀ (vs : List Value), memo x vs L1 → L1.bs = [] := by
          intro vs hm
          rcases hm with hm | ⟨_, ⟨_, hm⟩ | ⟨_, _, _, _, _, hm⟩⟩ <;> (rw [hm]; simp [Ly.bs])
        rcases getV_ok hj ht with ⟨hq, hs⟩ | ⟨_, v', h2, _⟩
        · rw [hq, lyAt_nil] at h1; cases h1
          rw [← hs] at hj
          rw [hnb _ hj.2] at hg; simp at hg
        · rcases h2 with ⟨L', h2, h3⟩ | ⟨h2, _⟩
          · rw [h1] at h2; cases h2
            rw [hnb _ h3.2] at hg; simp at hg
          · rw [h1] at h2; cases h2
      · exact hb p' hp' g hg
    · cases hf
end
end Go.Os
set_option linter.unusedVariables false
namespace Go.Os
section
variable {P : Program} {w : World} {RO : Nat → Prop} {Ls : List Ly} {a : Act} {s : List T}
theorem opP {o : Oper} {w1 : World} {RO1 : Nat → Prop} {Ls1 : List Ly} {s1 : List T} {W1 : List Nat} {v : Value} {t : T} {L : Ly} {e : Eff}
    (hr : (execOp a.eval o).run P w = .ok (.value v) w1) (h1 : Rel w1 RO1 Ls1 s1 a.tmps) (hX : Ext w RO Ls W1 w1 RO1 Ls1)
    (hT : TV w1 RO1 Ls1 t v L) (hnd : L.bs.Nodup) (hnew : ∀ g ∈ L.bs, g ∉ Ly.bsL Ls1 ∧ ¬ RO1 g ∧ g < w1.heap.size ∧ (g ∈ Ly.bsL Ls ∨ w.heap.size ≤ g))
    (he : e.1 = (putD s1 o.dst t).1) (hW : ∀ x, x ∈ W1 ∨ x ∈ (putD s1 o.dst t).2 → x ∈ e.2) : OpOK P w RO Ls a o e := by
  intro K Q hK
  obtain ⟨Ls', hR, hd, ho, hl⟩ := put_ok (a := a) (d := o.dst) h1 hT hnd fun g hg => ⟨(hnew g hg).1, (hnew g hg).2.1, (hnew g hg).2.2.1⟩
  unfold Oper.wp
  rw [hr]
  refine hK _ _ RO1 Ls' (by rw [he]; exact hR) hd ⟨hX.os, hX.tape, hX.output, hX.size, fun k hk hr => hX.blk k hk fun r hrW => hr r (hW r (.inl hrW)), hX.ro, hX.ro', fun g hg => ?_, fun r hr => ?_⟩
  · rcases ho g hg with hg | hg
    · exact (hnew g hg).2.2.2
    · exact hX.own g hg
  · rw [hl r fun hrW => hr (hW r (.inr hrW)), hX.ly r fun hrW => hr (hW r (.inl hrW))]
theorem TV_RV {x : R} {v : Value} (h : RV w RO x v) : TV w RO Ls (.r x) v .no := ⟨h, .inl rfl⟩
theorem op_assign {o : Oper} {x : Operand} (ho : o.op = .assign x) {E : Env} (hE : E.A = re) (hti : E.ti = tiOf P) (h : Rel w RO Ls s a.tmps) {e : Eff} (he : evAssign E s o.dst o.type (opd s x) = some e) : OpOK P w RO Ls a o e := by
  obtain ⟨L, hT, hb⟩ := opd_ok h x
  have hrun : (execOp a.eval o).run P w = .ok (.value (a.eval x)) w := by simp [execOp, ho]
  unfold evAssign at he
  split at he
  · rename_i hsn
    have hx : opd s x = .r .sn := by
      unfold isSn at hsn
      split at hsn
      · assumption
      · cases hsn
    simp only [Option.bind_eq_some_iff] at he
    obtain ⟨te, hte, he⟩ := he
    split at he
    · cases he
    · rename_i hne
      cases he
      rw [hx] at hT
      have hv : [a.eval x] = [Value.slice none 0 0] := hT.1
      exact opV (L := .nl) h hrun ⟨Nat.pos_of_ne_zero hne, .inl ⟨rfl, hv, rfl⟩⟩ (by simp [Ly.bs])
  · split at he
    · rename_i hsc
      simp only [Option.bind_eq_some_iff, Option.map_eq_some_iff] at he
      obtain ⟨y, hy, f, hf, rfl⟩ := he
      obtain ⟨RO1, Ls1, hR1, hX1, hb1⟩ := freezeAll_ok hE _ s [] f RO Ls h hf
      have hRV := frz_ok h hX1.ro hE hT hy hb1
      exact opP hrun hR1 hX1 (TV_RV hRV) (by simp [Ly.bs]) (by simp [Ly.bs]) rfl (by simp)
    · cases he
      exact opV h hrun hT hb
theorem foldl_set (l : List Value) : ∀ (cells : Array Value) (off k : Nat), off + k + l.length ≤ cells.size →
    ((l.zipIdx k).foldl (fun cs (x : Value × Nat) => cs.setIfInBounds (off + x.2) x.1) cells).toList = cells.toList.take (off + k) ++ l ++ cells.toList.drop (off + k + l.length) := by
  induction l with
  | nil => intro cells off k _; simp
  | cons x l ih =>
    intro cells off k hle
    simp only [List.length_cons] at hle
    rw [List.zipIdx_cons, List.foldl_cons, ih _ off (k + 1) (by simp; omega)]
    simp only [Array.toList_setIfInBounds, List.length_cons]
    have hlen : off + k < cells.toList.length := by simp; omega
    have h1 : (cells.toList.set (off + k) x).take (off + (k + 1)) = cells.toList.take (off + k) ++ [x] := by
      rw [show off + (k + 1) = (off + k) + 1 by omega, List.take_add_one, List.getElem?_set_self hlen, List.take_set_of_le (Nat.le_refl _)]; rfl
    have h2 : (cells.toList.set (off + k) x).drop (off + (k + 1) + l.length) = cells.toList.drop (off + k + (l.length + 1)) := by
      rw [List.drop_set_of_lt (by omega)]; congr 1; omega
    rw [h1, h2]; simp
theorem TCL_append : ∀ {l m : List T} {vs us : List Value} {cs ds : List Ly}, TCL w RO Ls l vs cs → TCL w RO Ls m us ds → TCL w RO Ls (l ++ m) (vs ++ us) (cs ++ ds)
  | [], m, vs, us, cs, ds, h, k => by rw [h.1, h.2]; exact k
  | t :: l, m, vs, us, cs, ds, h, k => by
    obtain ⟨v, vs', L, cs', hv, hc, h1, h2⟩ := h
    rw [hv, hc]
    exact ⟨v, vs' ++ us, L, cs' ++ ds, rfl, rfl, h1, TCL_append h2 k⟩
theorem fill_ok (h : Rel w RO Ls s a.tmps) (place : Nat → Option (Nat × Nat)) : ∀ (ps : List (Nat × Operand)) (cells l : List T) (vs : Array Value) (cs : List Ly), TCL w RO Ls cells vs.toList cs → Ly.bsL cs = [] →
    fillT place cells (ps.map fun x => (x.1, opd s x.2)) = some l → ∃ vs' cs', Instr.fill place vs (ps.map fun x => (x.1, a.eval x.2)) = some vs' ∧ TCL w RO Ls l vs'.toList cs' ∧ Ly.bsL cs' = [] ∧ l.length = cells.length
  | [], cells, l, vs, cs, hT, hb, hf => by
    simp only [List.map_nil, fillT, Option.some.injEq] at hf; subst hf
    exact ⟨vs, cs, rfl, hT, hb, rfl⟩
  | (i, x) :: ps, cells, l, vs, cs, hT, hb, hf => by
    simp only [List.map_cons, fillT, Option.bind_eq_some_iff] at hf
    obtain ⟨pl, hpl, c, hc, hf⟩ := hf
    split at hf
    · rename_i hle
      simp only [Bool.and_eq_true, decide_eq_true_eq] at hle
      obtain ⟨L, hTx, hbx⟩ := opd_ok h x
      obtain ⟨ds, hds, hbd, _, _⟩ := cells_ok hTx hc
      have hlen := TCL_len hT
      have hlen2 := TCL_len hds
      have hsz : (a.eval x).cells.size = pl.2 := by have := hlen2.1; simp at this; omega
      have hvs : vs.size = cells.length := by have := hlen.1; simpa using this
      have hmid := TCL_append (TCL_append (TCL_take hT pl.1) hds) (TCL_drop hT (pl.1 + pl.2))
      have hfold : ((a.eval x).cells.zipIdx.foldl (fun cs (x : Value × Nat) => cs.setIfInBounds (pl.1 + x.2) x.1) vs).toList = vs.toList.take pl.1 ++ (a.eval x).cells.toList ++ vs.toList.drop (pl.1 + pl.2) := by
        rw [← Array.foldl_toList]
        have := foldl_set (a.eval x).cells.toList vs pl.1 0 (by simp; omega)
        simp only [Nat.add_zero, Array.length_toList, hsz] at this
        rw [← this]; simp [Array.toList_zipIdx]
      rw [← hfold] at hmid
      have hbm : Ly.bsL (cs.take pl.1 ++ ds ++ cs.drop (pl.1 + pl.2)) = [] := by
        rw [bsL_append, bsL_append, hbd hbx, bsL_nil_of hb (cs' := cs.take pl.1) (fun L hL => List.mem_of_mem_take hL), bsL_nil_of hb (cs' := cs.drop (pl.1 + pl.2)) (fun L hL => List.mem_of_mem_drop hL)]; rfl
      obtain ⟨vs', cs', h1, h2, h3, h4⟩ := fill_ok h place ps _ l _ _ hmid hbm hf
      refine ⟨vs', cs', ?_, h2, h3, ?_⟩
      · simp only [List.map_cons, Instr.fill, hpl]
        rw [if_neg (by rw [hsz]; simp; omega)]
        exact h1
      · rw [h4]; simp; omega
    · cases hf
theorem ti_pl {t : TypeId} {ti : TI} {d : TypeDesc} (h : tiOf P t = some ti) (hd : P.underlying t = some d) : ti.pl = plOf P d := by
  unfold tiOf at h
  split at h
  · rename_i i d' hi hd'
    rw [hd] at hd'; cases hd'
    cases h; rfl
  · cases h
theorem op_build {o : Oper} {t : TypeId} {ps : Array (Nat × Operand)} (ho : o.op = .build t ps) {E : Env} (hE : E.A = re) (hti : E.ti = tiOf P) (h : Rel w RO Ls s a.tmps) {c : T} (he : evBuild E t (parts s ps) = some c) :
    OpOK P w RO Ls a o (putD s o.dst c) := by
  unfold evBuild at he
  simp only [Option.bind_eq_some_iff, hti] at he
  obtain ⟨ti, hti', z, hz, he⟩ := he
  obtain ⟨i, d, hi, hd, _, _, _, hdesc, hzero⟩ := ti_info hti'
  have hpl := ti_pl hti' hd
  rw [hzero] at hz
  simp only [Option.bind_eq_some_iff] at hz
  obtain ⟨zv, hzv, hzvs⟩ := hz
  have hR : RCL w RO z zv.cells.toList := ofVs_ok hzvs
  obtain ⟨cs, hcs, hbcs⟩ := TCL_of_RCL (Ls := Ls) hR
  have fin : ∀ (place : Nat → Option (Nat × Nat)) (l : List T), fillT place (z.map T.r) (parts s ps) = some l → (∀ vs', Instr.fill place zv.cells (ps.toList.map fun x => (x.1, a.eval x.2)) = some vs' → P.built t (ps.toList.map fun x => (x.1, a.eval x.2)) = some vs') →
      c = mkAgg l → OpOK P w RO Ls a o (putD s o.dst c) := by
    intro place l hl hb hc
    obtain ⟨vs', cs', h1, h2, h3, _⟩ := fill_ok h place ps.toList (z.map T.r) l zv.cells cs hcs hbcs hl
    obtain ⟨L, h4, h5⟩ := mkAgg_ok (vs := vs') h2 h3
    have hb := hb vs' h1
    refine opV h ?_ (hc ▸ h4) h5
    have hp : (ps.map fun (i, x) => (i, a.eval x)).toList = ps.toList.map fun x => (x.1, a.eval x.2) := by simp
    have := run_build (P := P) w t (ps.map fun (i, x) => (i, a.eval x)) vs' (by rw [hp]; exact hb)
    simp only [execOp, ho]
    rw [Sem.run_bind, this]; rfl
  split at he
  · rename_i pl hp
    simp only [Option.map_eq_some_iff] at he
    obtain ⟨l, hl, rfl⟩ := he
    refine fin _ l hl (fun vs' hvs => ?_) rfl
    rw [hpl] at hp
    unfold Program.built
    cases d <;> simp only [plOf] at hp <;> try (cases hp; done)
    rw [hi, hd]
    simp only [hzv, hp]
    rw [show (fun x => pl.toArray[x]?) = (fun i => pl[i]?) from by funext i; simp]
    exact hvs
  · simp only [Option.bind_eq_some_iff, Option.map_eq_some_iff] at he
    obtain ⟨x, hx, te, hte, l, hl, rfl⟩ := he
    obtain ⟨ie, de, hie, _, _, hsz, _, _, _⟩ := ti_info hte
    refine fin _ l hl (fun vs' hvs => ?_) rfl
    have hda := arr_desc hdesc hx
    unfold Program.built
    rw [hi, hd, hda]
    simp only [hzv, hie]
    rw [hsz] at hvs
    exact hvs
end
end Go.Os
set_option linter.unusedVariables false
namespace Go.Os
def repV (z : List Value) : Nat → List Value
  | 0 => []
  | n + 1 => z ++ repV z n
theorem repV_len (z : List Value) : ∀ n, (repV z n).length = n * z.length
  | 0 => by simp [repV]
  | n + 1 => by simp [repV, repV_len z n, Nat.add_mul, Nat.add_comm]
theorem repV_eq (zero : Array Value) (hpos : 0 < zero.size) : ∀ n, ((Array.range (n * zero.size)).map (zero[· % zero.size]!)).toList = repV zero.toList n
  | 0 => by simp [repV]
  | n + 1 => by
    have ih := repV_eq zero hpos n
    simp only [Array.toList_map, Array.toList_range] at ih ⊢
    rw [show (n + 1) * zero.size = zero.size + n * zero.size by rw [Nat.add_mul]; omega, List.range_add, List.map_append]
    rw [repV, ← ih]
    congr 1
    · apply List.ext_getElem?
      intro i
      by_cases hi : i < zero.size
      · simp [hi, Nat.mod_eq_of_lt hi]
      · simp [hi]
    · rw [List.map_map]
      apply List.map_congr_left
      intro i _
      simp [Function.comp]
section
variable {P : Program} {w : World} {RO : Nat → Prop} {Ls : List Ly} {a : Act} {s : List T}
theorem run_buildSlice {t e : TypeId} {ie : TypeInfo} {zv : Value} (hd : P.underlying t = some (.slice e)) (hie : P.info? e = some ie) (hz : ie.zero = some zv) (hsz : zv.cells.size = ie.size) (hpos : 0 < ie.size)
    {len : Nat} (hle : len * ie.size ≤ 16777216) {parts : Array (Nat × Value)} {cells : Array Value}
    (hf : Instr.fill (fun i => some (i * ie.size, ie.size)) (repV zv.cells.toList len).toArray parts.toList = some cells) (w : World) :
    (Instr.buildSlice t len parts).run P w = .ok (.slice (some ⟨w.heap.size, 0, none⟩) len len) (w.alloc (.cells cells e)) := by
  have hV : (repV zv.cells.toList len).toArray = (Array.range (len * zv.cells.size)).map (zv.cells[· % zv.cells.size]!) := by
    rw [← repV_eq zv.cells (by omega) len]
  have n1 : ¬ (len * ie.size > 2 ^ 24) := by simp; omega
  rw [hV, hsz] at hf
  unfold Instr.buildSlice
  rw [Sem.run_bind, run_underlying hd]
  simp only [Result.andThen_ok, Sem.run_bind, run_size hie, if_neg n1]
  by_cases h0 : len * ie.size = 0
  · simp only [h0, if_true, pure_bind] at hf ⊢
    have e1 : (Array.range 0).map (fun x => (#[] : Array Value)[x % (#[] : Array Value).size]!) = (Array.range 0).map (zv.cells[· % ie.size]!) := by simp
    rw [e1, hf]
    simp [newRow]
  · simp only [h0, if_false, zeroValue, Sem.run_bind, run_info hie, hz, Result.andThen_ok, Sem.run_pure, hsz, hf]
    simp [newRow]
theorem TCL_rep {z : List R} {zs : List Value} (h : RCL w RO z zs) : ∀ n, ∃ cs, TCL w RO Ls (repT (z.map T.r) n) (repV zs n) cs ∧ Ly.bsL cs = []
  | 0 => ⟨[], ⟨rfl, rfl⟩, rfl⟩
  | n + 1 => by
    obtain ⟨cs, h1, h2⟩ := TCL_of_RCL (Ls := Ls) h
    obtain ⟨ds, h3, h4⟩ := TCL_rep h n
    exact ⟨cs ++ ds, TCL_append h1 h3, by rw [bsL_append, h2, h4]; rfl⟩
theorem repT_len (z : List T) : ∀ n, (repT z n).length = n * z.length
  | 0 => by simp [repT]
  | n + 1 => by simp [repT, repT_len z n, Nat.add_mul, Nat.add_comm]
theorem cutEl_len (sz : Nat) : ∀ (n : Nat) (xs : List R), (cutEl sz n xs).length = n
  | 0, _ => rfl
  | n + 1, xs => by simp [cutEl, cutEl_len sz n]
theorem cutElT_len (sz : Nat) : ∀ (n : Nat) (xs : List T), (cutElT sz n xs).length = n
  | 0, _ => rfl
  | n + 1, xs => by simp [cutElT, cutElT_len sz n]
theorem RCE_cut {sz g : Nat} : ∀ (n : Nat) (xs : List R) (vs : List Value) (off : Nat), xs.length = n * sz → RCL w RO xs vs → (∀ j v, vs[j]? = some v → w.cell? ⟨g, off + j, none⟩ = some v) → RCE w RO sz g off (cutEl sz n xs)
  | 0, _, _, _, _, _, _ => trivial
  | n + 1, xs, vs, off, hl, hR, hc => by
    have hlen := RCL_len hR
    have e1 : (n + 1) * sz = n * sz + sz := by rw [Nat.add_mul]; omega
    refine ⟨⟨vs.take sz, by simp; omega, fun j v hj => ?_, RCL_take hR sz⟩, RCE_cut n (xs.drop sz) (vs.drop sz) (off + sz) (by simp; omega) (RCL_drop hR sz) fun j v hj => ?_⟩
    · rw [List.getElem?_take] at hj
      split at hj
      · exact hc j v hj
      · cases hj
    · rw [List.getElem?_drop] at hj
      have := hc _ v hj
      rwa [← Nat.add_assoc] at this
theorem RCE_ones {g : Nat} : ∀ (xs : List R) (vs : List Value) (off : Nat), RCL w RO xs vs → (∀ j v, vs[j]? = some v → w.cell? ⟨g, off + j, none⟩ = some v) → RCE w RO 1 g off xs
  | [], _, _, _, _ => trivial
  | x :: xs, vs, off, hR, hc => by
    obtain ⟨v, vs', hv, h1, h2⟩ := hR
    subst hv
    refine ⟨⟨[v], rfl, fun j u hj => ?_, h1⟩, RCE_ones xs vs' (off + 1) h2 fun j u hj => ?_⟩
    · cases j with
      | zero => exact hc 0 u (by simpa using hj)
      | succ j => simp at hj
    · have := hc (j + 1) u (by simpa using hj)
      rwa [show off + (j + 1) = off + 1 + j by omega] at this
theorem rowEl_ok {te : TI} {len g : Nat} {xs ys : List R} {vs : List Value} (hr : rowEl te len xs = some ys) (hl : xs.length = len * te.sz) (hR : RCL w RO xs vs)
    (hc : ∀ j v, vs[j]? = some v → w.cell? ⟨g, 0 + j, none⟩ = some v) : RCE w RO te.sz g 0 ys ∧ ys.length = len := by
  unfold rowEl at hr
  split at hr
  · cases hr; exact ⟨RCE_cut len xs vs 0 hl hR hc, cutEl_len _ _ _⟩
  · split at hr
    · rename_i h1
      simp only [Bool.and_eq_true, beq_iff_eq] at h1
      cases hr
      rw [h1.1] at hl ⊢
      exact ⟨RCE_ones _ vs 0 hR hc, by omega⟩
    · cases hr
theorem TCE_cut {sz g : Nat} : ∀ (n : Nat) (xs : List T) (vs : List Value) (cs : List Ly) (off : Nat), xs.length = n * sz → TCL w RO Ls xs vs cs → (∀ j v, vs[j]? = some v → w.cell? ⟨g, off + j, none⟩ = some v) →
    TCE w RO Ls sz g off (cutElT sz n xs) cs
  | 0, xs, _, cs, _, hl, hT, _ => by
    have hlen := TCL_len hT
    have : cs.length = 0 := by omega
    exact List.eq_nil_of_length_eq_zero this
  | n + 1, xs, vs, cs, off, hl, hT, hc => by
    have hlen := TCL_len hT
    have e1 : (n + 1) * sz = n * sz + sz := by rw [Nat.add_mul]; omega
    refine ⟨vs.take sz, .ag (cs.take sz), cs.drop sz, by simp; omega, by simp [Ly.un]; omega, by simp [Ly.un], fun j v hj => ?_, ⟨_, rfl, TCL_take hT sz⟩,
      TCE_cut n (xs.drop sz) (vs.drop sz) (cs.drop sz) (off + sz) (by simp; omega) (TCL_drop hT sz) fun j v hj => ?_⟩
    · rw [List.getElem?_take] at hj
      split at hj
      · exact hc j v hj
      · cases hj
    · rw [List.getElem?_drop] at hj
      have := hc _ v hj
      rwa [← Nat.add_assoc] at this
theorem one_un {x : T} {v : Value} {L : Ly} (h1 : x.one = true) (h : TC w RO Ls x [v] L) : L.un = [L] := by
  cases x with
  | a l => simp [T.one] at h1
  | tp b l => simp [T.one] at h1
  | u => simp [T.one] at h1
  | r x => rcases h.2 with h | ⟨_, ⟨_, h⟩ | ⟨_, _, _, _, _, h⟩⟩ <;> rw [h] <;> rfl
  | own fl sz l => obtain ⟨_, ⟨_, _, h⟩ | ⟨_, _, _, _, _, h, _⟩⟩ := h <;> rw [h] <;> rfl
  | ow sz l => obtain ⟨_, _, _, _, _, _, _, h, _⟩ := h; rw [h]; rfl
  | bx l => obtain ⟨_, _, _, _, _, _, h, _⟩ := h; rw [h]; rfl
  | p r q => rw [h.1]; rfl
  | v r q sz wd => rw [h.1]; rfl
  | cp l k => rw [h.1]; rfl
  | f g c => rw [h.1]; rfl
theorem TCE_ones {g : Nat} : ∀ (xs : List T) (vs : List Value) (cs : List Ly) (off : Nat), xs.all T.one = true → TCL w RO Ls xs vs cs → (∀ j v, vs[j]? = some v → w.cell? ⟨g, off + j, none⟩ = some v) → TCE w RO Ls 1 g off xs cs
  | [], _, _, _, _, h, _ => h.2
  | x :: xs, vs, cs, off, h1, hT, hc => by
    obtain ⟨v, vs', L, cs', hv, hcs, h2, h3⟩ := hT
    subst hv hcs
    simp only [List.all_cons, Bool.and_eq_true] at h1
    have hu := one_un h1.1 h2
    refine ⟨[v], L, cs', rfl, by rw [hu]; rfl, by rw [hu]; rfl, fun j u hj => ?_, h2, TCE_ones xs vs' cs' (off + 1) h1.2 h3 fun j u hj => ?_⟩
    · cases j with
      | zero => exact hc 0 u (by simpa using hj)
      | succ j => simp at hj
    · have := hc (j + 1) u (by simpa using hj)
      rwa [show off + (j + 1) = off + 1 + j by omega] at this
theorem rowElT_ok {te : TI} {len g : Nat} {xs ys : List T} {vs : List Value} {cs : List Ly} (hr : rowElT te len xs = some ys) (hl : xs.length = len * te.sz) (hT : TCL w RO Ls xs vs cs)
    (hc : ∀ j v, vs[j]? = some v → w.cell? ⟨g, 0 + j, none⟩ = some v) : TCE w RO Ls te.sz g 0 ys cs ∧ ys.length = len := by
  unfold rowElT at hr
  split at hr
  · cases hr; exact ⟨TCE_cut len xs vs cs 0 hl hT hc, cutElT_len _ _ _⟩
  · split at hr
    · rename_i h1
      simp only [Bool.and_eq_true, beq_iff_eq] at h1
      cases hr
      rw [h1.1] at hl ⊢
      exact ⟨TCE_ones _ vs cs 0 h1.2 hT hc, by omega⟩
    · cases hr
theorem Ext.sub {w w1 : World} {RO RO1 : Nat → Prop} {Ls Ls1 : List Ly} {W : List Nat} {s1 : List T} {tm : Array Value} (hX : Ext w RO Ls W w1 RO1 Ls1) (h1 : Rel w1 RO1 Ls1 s1 tm) (hs : w1.heap.size = w.heap.size) :
    ∀ g ∈ Ly.bsL Ls1, g ∈ Ly.bsL Ls := by
  intro g hg
  rcases hX.own g hg with h | h
  · exact h
  · have := (h1.own g hg).1; omega
theorem takeIn_W {E : Env} : ∀ (n : Nat) (s : List T) (W : List Nat) (l : List T) (y : List T × List T × List Nat), takeIn E s W n l = some y → (∀ x ∈ W, x ∈ y.2.2) ∧ y.1.length = l.length
  | 0, s, W, l, y, h => by
    cases l with
    | nil => simp only [takeIn, Option.some.injEq] at h; subst h; exact ⟨fun x hx => hx, rfl⟩
    | cons c l => simp [takeIn] at h
  | n + 1, s, W, l, y, h => by
    cases l with
    | nil => simp [takeIn] at h
    | cons c l =>
      unfold takeIn at h
      simp only at h
      split at h
      · simp only [Option.map_eq_some_iff] at h
        obtain ⟨z, hz, rfl⟩ := h
        have := takeIn_W n s W l z hz
        exact ⟨this.1, by simp [this.2]⟩
      · simp only [Option.bind_eq_some_iff, Option.map_eq_some_iff] at h
        obtain ⟨p, hp, s1, hs1, z, hz, rfl⟩ := h
        have := takeIn_W n s1 _ _ z hz
        exact ⟨fun x hx => this.1 x (by simp [hx]), by simp [this.2, killL, mapL_length]⟩
theorem takeIn_ok {E : Env} (hE : E.A = re) {tm : Array Value} : ∀ (n : Nat) (s : List T) (W : List Nat) (l : List T) (y : List T × List T × List Nat) (Ls : List Ly) (vs : List Value) (cs : List Ly),
    Rel w RO Ls s tm → TCL w RO Ls l vs cs → takeIn E s W n l = some y →
    ∃ Ls1 cs1, Rel w RO Ls1 y.2.1 tm ∧ Ext w RO Ls y.2.2 w RO Ls1 ∧ TCL w RO Ls1 y.1 vs cs1 ∧ (Ly.bsL cs1).Nodup ∧ ∀ g ∈ Ly.bsL cs1, g ∉ Ly.bsL Ls1 ∧ ¬ RO g ∧ g ∈ Ly.bsL Ls
  | 0, s, W, l, y, Ls, vs, cs, h, hT, ht => by
    cases l with
    | cons c l => simp [takeIn] at ht
    | nil =>
      simp only [takeIn, Option.some.injEq] at ht; subst ht
      exact ⟨Ls, [], h, (Ext.refl _ _ _).mono (by simp), ⟨hT.1, rfl⟩, by simp [Ly.bsL], by simp [Ly.bsL]⟩
  | n + 1, s, W, l, y, Ls, vs, cs, h, hT, ht => by
    cases l with
    | nil => simp [takeIn] at ht
    | cons c l =>
      obtain ⟨v, vs', L, cs', hv, hcs, h1, h2⟩ := hT
      subst hv hcs
      unfold takeIn at ht
      simp only at ht
      split at ht
      · rename_i x
        simp only [Option.map_eq_some_iff] at ht
        obtain ⟨z, hz, rfl⟩ := ht
        obtain ⟨Ls1, cs1, h3, h4, h5, h6, h7⟩ := takeIn_ok hE n s W l z Ls vs' cs' h h2 hz
        exact ⟨Ls1, .no :: cs1, h3, h4, ⟨v, vs', .no, cs1, rfl, rfl, ⟨h1.1, .inl rfl⟩, h5⟩, by simpa [Ly.bsL, Ly.bs] using h6, by simpa [Ly.bsL, Ly.bs] using h7⟩
      · simp only [Option.bind_eq_some_iff, Option.map_eq_some_iff] at ht
        obtain ⟨p, hp, s1, hs1, z, hz, rfl⟩ := ht
        unfold wholeOwn at hp
        split at hp
        · rename_i r q sz wd _
          split at hp
          · split at hp
            · simp only [Option.bind_eq_some_iff, hE] at hp
              obtain ⟨t, hg, hp⟩ := hp
              split at hp
              · rename_i fl sz' xs
                split at hp
                · rename_i hsz
                  have hsz := eq_of_beq hsz
                  subst hsz
                  cases hp
                  obtain ⟨hL, L0, L1, v1, h3, h4, hv1, hw⟩ := h1
                  simp only [List.cons.injEq, and_true] at hv1
                  subst hv1
                  obtain ⟨v', hTC⟩ := rel_place h hg rfl h3 h4
                  have hown : ∀ Ls', TC w RO Ls' (.own fl sz' xs) [v] L1 := by
                    intro Ls'
                    have hTC' : TC w RO Ls' (.own fl sz' xs) [v'] L1 := hTC
                    have : v = v' := by
                      obtain ⟨_, ⟨_, h5, h6⟩ | ⟨g, cap, cur, e, h5, h6, _⟩⟩ := hTC
                      · subst h6; simp only [List.cons.injEq, and_true] at h5; rw [h5]; exact hw
                      · subst h6; simp only [List.cons.injEq, and_true] at h5; rw [h5]; exact hw
                    rw [this]; exact hTC'
                  rw [hE] at hs1
                  obtain ⟨M0, Ls1, hM0, hLs1, hR1, hX1⟩ := rel_drop h (getP_lt hg (by simp)) hs1 (.inl rfl)
                  rw [h3] at hM0; cases hM0
                  have hrest : TCL w RO Ls1 (killL r q l) vs' cs' := by
                    rw [hLs1]
                    exact TCL_map (fun _ _ => rfl) (fun _ h => h) l vs' cs' (fun _ _ => rfl) (maps_kill h3 _) h2
                  obtain ⟨Ls2, cs1, h5, h6, h7, h8, h9⟩ := takeIn_ok hE n s1 _ _ z Ls1 vs' cs' hR1 hrest hz
                  have hout : ∀ g ∈ L1.bs, g ∉ Ly.bsL Ls1 := by
                    intro g hgL hgm
                    rw [hLs1] at hgm
                    rcases bsL_set_mem hgm with hgm | ⟨j, hj, hgm⟩
                    · exact setLy_out q L0 .no L1 rfl (nodup_of_get h.nodup h3) h4 g hgL hgm
                    · refine hj (getD_disj h.nodup hgm ?_)
                      simp only [List.getD_eq_getElem?_getD, h3, Option.getD_some]
                      exact lyAt_bs q L0 L1 h4 g hgL
                  have hin : ∀ g ∈ L1.bs, g ∈ Ly.bsL Ls := fun g hg => bsL_get h3 g (lyAt_bs q L0 L1 h4 g hg)
                  refine ⟨Ls2, L1 :: cs1, h5, (hX1.trans hR1.nodup h6).mono fun x hx => ?_, ⟨v, vs', L1, cs1, rfl, rfl, hown Ls2, h7⟩, ?_, fun g hg => ?_⟩
                  · simp only [List.mem_append, List.mem_singleton] at hx
                    rcases hx with rfl | hx
                    · exact (takeIn_W n s1 _ _ z hz).1 x (by simp)
                    · exact hx
                  · simp only [Ly.bsL, List.nodup_append]
                    refine ⟨?_, h8, fun x hx y hy e => ?_⟩
                    · obtain ⟨_, ⟨_, _, h5⟩ | ⟨g, cap, cur, e, _, h5, _⟩⟩ := hTC <;> rw [h5] <;> simp [Ly.bs, Ly.bsL]
                    · subst e; exact hout x hx (h9 x hy).2.2
                  · simp only [Ly.bsL, List.mem_append] at hg
                    rcases hg with hg | hg
                    · exact ⟨fun hm => hout g hg (h6.sub h5 rfl g hm), (h.own g (hin g hg)).2, hin g hg⟩
                    · exact ⟨(h9 g hg).1, (h9 g hg).2.1, hX1.sub hR1 rfl g (h9 g hg).2.2⟩
                · cases hp
              · cases hp
            · cases hp
          · cases hp
        · cases hp
theorem op_buildSlice {o : Oper} {t : TypeId} {len : Nat} {ps : Array (Nat × Operand)} (ho : o.op = .buildSlice t len ps) {E : Env} (hE : E.A = re) (hti : E.ti = tiOf P) (h : Rel w RO Ls s a.tmps) {e : Eff}
    (he : evBuildSlice E s o.dst t len (parts s ps) = some e) : OpOK P w RO Ls a o e := by
  unfold evBuildSlice at he
  simp only [Option.bind_eq_some_iff] at he
  obtain ⟨te, hte, z, hz, he⟩ := he
  split at he
  · cases he
  · rename_i hchk
    simp only [Bool.and_eq_true, decide_eq_true_eq, beq_iff_eq, Bool.not_eq_true', beq_eq_false_iff_ne, ne_eq] at hchk
    obtain ⟨⟨hle, hne⟩, hzl⟩ := hchk
    obtain ⟨el, ie, hd, hte', hie, hsz, _⟩ := slEl_ok hti hte
    obtain ⟨ie', de, hie', _, _, _, _, _, hzero⟩ := ti_info hte'
    rw [hie] at hie'; cases hie'
    rw [hzero] at hz
    simp only [Option.bind_eq_some_iff] at hz
    obtain ⟨zv, hzv, hzvs⟩ := hz
    have hR : RCL w RO z zv.cells.toList := ofVs_ok hzvs
    have hzsz : zv.cells.size = ie.size := by have := RCL_len hR; simp at this; omega
    simp only [Option.bind_eq_some_iff] at he
    obtain ⟨l, hl, he⟩ := he
    obtain ⟨cs0, hT0, hb0⟩ := TCL_rep (Ls := Ls) hR len
    rw [hsz] at hl
    obtain ⟨cells, cs, hfill, hT, hb, hll⟩ := fill_ok h (fun i => some (i * ie.size, ie.size)) ps.toList _ l (repV zv.cells.toList len).toArray cs0 (by simpa using hT0) hb0 hl
    have hlen : l.length = len * te.sz := by rw [hll, repT_len]; simp [hzl]
    have hp : (ps.map fun (i, x) => (i, a.eval x)).toList = ps.toList.map fun x => (x.1, a.eval x.2) := by simp
    have hrun := run_buildSlice (P := P) hd hie hzv hzsz (by omega) (by rw [← hsz]; exact hle) (parts := ps.map fun (i, x) => (i, a.eval x)) (by rw [hp]; exact hfill) w
    have hrun' : (execOp a.eval o).run P w = .ok (.value (.slice (some ⟨w.heap.size, 0, none⟩) len len)) (w.alloc (.cells cells el)) := by
      simp only [execOp, ho]
      rw [Sem.run_bind, hrun]; rfl
    have hcsz : cells.size = len * te.sz := by have := (TCL_len hT).1; simp at this; omega
    have hN := New.alloc w (.cells cells el)
    have hcell : ∀ j v, cells.toList[j]? = some v → (w.alloc (.cells cells el)).cell? ⟨w.heap.size, 0 + j, none⟩ = some v := by
      intro j v hj
      rw [Nat.zero_add, cell_new]; simpa using hj
    have hmx : len ≤ maxLen := by
      have : len * 1 ≤ len * te.sz := Nat.mul_le_mul_left _ (by omega)
      simp only [maxLen]; omega
    split at he
    · rename_i xs hxs
      simp only [Option.map_eq_some_iff] at he
      obtain ⟨ys, hys, rfl⟩ := he
      have hxl : xs.length = l.length := by
        have := toRL_ok l _ cs xs hT hxs
        rw [← RCL_len this, (TCL_len hT).1]
      have hRx : RCL (w.alloc (.cells cells el)) RO xs cells.toList := RCL_frame (fun g hg => hN.blk g (h.ro g hg)) (fun _ h => h) _ _ (toRL_ok l _ cs xs hT hxs)
      obtain ⟨h1, h2⟩ := rowEl_ok hys (by omega) hRx hcell
      refine opD (L := .bl w.heap.size 0 len len []) h hrun' hN ?_ (by simp [Ly.bs, Ly.bsL]) (by simp [Ly.bs, Ly.bsL])
      refine ⟨by omega, .inr ⟨w.heap.size, len, cells, el, by rw [h2], by rw [h2], heap_alloc_new w _, by omega, hmx, hcsz, h1⟩⟩
    · split at he
      · simp only [Option.map_eq_some_iff] at he
        obtain ⟨ys, hys, rfl⟩ := he
        have hT2 : TCL (w.alloc (.cells cells el)) RO Ls l cells.toList cs := by
          have := TCL_map (fp := .p) (fv := .v) (Ls' := Ls) (fun k hk => hN.blk k (h.ro k hk)) (fun _ h => h) l _ cs (fun k hk => by rw [hb] at hk; cases hk) (Maps.keeps fun r _ L0 h0 _ => h0) hT
          rwa [mapL_id] at this
        obtain ⟨h1, h2⟩ := rowElT_ok hys (by omega) hT2 hcell
        refine opD (L := .bl w.heap.size 0 len len cs) h hrun' hN ?_ (by simp [Ly.bs, hb]) (by simp [Ly.bs, hb])
        exact ⟨by omega, w.heap.size, len, cells, el, cs, by rw [h2], by rw [h2], heap_alloc_new w _, by omega, hmx, hcsz, h1⟩
      · simp only [Option.bind_eq_some_iff, Option.map_eq_some_iff] at he
        obtain ⟨y, hy, ys, hys, rfl⟩ := he
        obtain ⟨Ls1, cs1, hR1, hX1, hT1, hnd, hout⟩ := takeIn_ok hE l.length s [] l y Ls _ cs h hT hy
        have hyl := (takeIn_W l.length s [] l y hy).2
        have hT2 : TCL (w.alloc (.cells cells el)) RO Ls1 y.1 cells.toList cs1 := by
          have := TCL_map (fp := .p) (fv := .v) (Ls' := Ls1) (fun k hk => hN.blk k (h.ro k hk)) (fun _ h => h) y.1 _ cs1 (fun k hk => hN.blk k (h.own k (hout k hk).2.2).1) (Maps.keeps fun r _ L0 h0 _ => h0) hT1
          rwa [mapL_id] at this
        obtain ⟨h1, h2⟩ := rowElT_ok hys (by omega) hT2 hcell
        have hR2 := hR1.new hN (fun _ h => h) (fun _ h => .inl h)
        have hX2 : Ext w RO Ls y.2.2 (w.alloc (.cells cells el)) RO Ls1 :=
          ⟨rfl, rfl, rfl, by simp, fun k hk _ => hN.blk k hk, hX1.ro, hX1.ro', hX1.own, hX1.ly⟩
        have hnew0 : w.heap.size ∉ Ly.bsL cs1 := fun hm => by have := (h.own _ (hout _ hm).2.2).1; omega
        refine opP (L := .bl w.heap.size 0 len len cs1) hrun' hR2 hX2 ?_ ?_ (fun g hg => ?_) rfl (by simp)
        · exact ⟨by omega, w.heap.size, len, cells, el, cs1, by rw [h2], by rw [h2], heap_alloc_new w _, by omega, hmx, hcsz, h1⟩
        · simp only [Ly.bs, List.nodup_cons]; exact ⟨hnew0, hnd⟩
        · simp only [Ly.bs, List.mem_cons] at hg
          rcases hg with rfl | hg
          · exact ⟨fun hm => by have := (hR1.own _ hm).1; omega, fun hm => by have := h.ro _ hm; omega, by simp, .inr (Nat.le_refl _)⟩
          · have := hout g hg
            exact ⟨this.1, this.2.1, by have := (h.own g this.2.2).1; simp; omega, .inl this.2.2⟩
end
end Go.Os
set_option linter.unusedVariables false
namespace Go.Os
section
variable {P : Program} {w : World} {RO : Nat → Prop} {Ls : List Ly} {a : Act} {s : List T}
theorem one_cell {c : T} {v : Value} {L : Ly} (h1 : c.one = true) (h : TC w RO Ls c [v] L) : v.oneCell' = true := by
  have hl := cells_ok (TV_of_cell (by simp [cellT]; cases c <;> simp_all [T.one]) h) (l := [c]) (by cases c <;> simp_all [T.cells?, T.one]; rename_i x; cases x <;> simp_all [R.one])
  cases v with
  | agg l =>
    exfalso
    cases c with
    | a l => simp [T.one] at h1
    | tp b l => simp [T.one] at h1
    | u => simp [T.one] at h1
    | r x => cases x with
      | a l => simp [T.one, R.one] at h1
      | ro sz l => obtain ⟨_, _, hv, _⟩ := h.1; simp at hv
      | _ => have := h.1; simp [RC] at this
    | own fl sz l => obtain ⟨_, ⟨_, hv, _⟩ | ⟨_, _, _, _, hv, _⟩⟩ := h <;> simp at hv
    | ow sz l => obtain ⟨_, _, _, _, _, _, hv, _⟩ := h; simp at hv
    | bx l => obtain ⟨_, _, _, _, _, hv, _⟩ := h; simp at hv
    | p r q => obtain ⟨_, _, _, _, _, _, hv⟩ := h; simp at hv
    | v r q sz wd =>
      obtain ⟨_, _, L1, v', _, _, hv, hw⟩ := h
      simp only [List.cons.injEq, and_true] at hv; subst hv
      cases wd with
      | none => cases L1 <;> simp [viewV] at hw
      | some x => obtain ⟨_, _, _, _, hw, _, _⟩ := hw; cases hw
    | cp l k => obtain ⟨_, _, _, hv, _⟩ := h; simp at hv
    | f g c => obtain ⟨_, _, hv, _⟩ := h; simp only [List.cons.injEq, and_true] at hv; unfold fnV at hv; split at hv <;> cases hv
  | tuple l =>
    exfalso
    cases c with
    | a l => simp [T.one] at h1
    | tp b l => simp [T.one] at h1
    | u => simp [T.one] at h1
    | r x => cases x with
      | a l => simp [T.one, R.one] at h1
      | ro sz l => obtain ⟨_, _, hv, _⟩ := h.1; simp at hv
      | _ => have := h.1; simp [RC] at this
    | own fl sz l => obtain ⟨_, ⟨_, hv, _⟩ | ⟨_, _, _, _, hv, _⟩⟩ := h <;> simp at hv
    | ow sz l => obtain ⟨_, _, _, _, _, _, hv, _⟩ := h; simp at hv
    | bx l => obtain ⟨_, _, _, _, _, hv, _⟩ := h; simp at hv
    | p r q => obtain ⟨_, _, _, _, _, _, hv⟩ := h; simp at hv
    | v r q sz wd =>
      obtain ⟨_, _, L1, v', _, _, hv, hw⟩ := h
      simp only [List.cons.injEq, and_true] at hv; subst hv
      cases wd with
      | none => cases L1 <;> simp [viewV] at hw
      | some x => obtain ⟨_, _, _, _, hw, _, _⟩ := hw; cases hw
    | cp l k => obtain ⟨_, _, _, hv, _⟩ := h; simp at hv
    | f g c => obtain ⟨_, _, hv, _⟩ := h; simp only [List.cons.injEq, and_true] at hv; unfold fnV at hv; split at hv <;> cases hv
  | _ => rfl
mutual
theorem blk_ok : ∀ (t : T) (vs : List Value) (L : Ly), TC w RO Ls t vs L → ∀ g ∈ L.bs, ∃ cur e, w.heap[g]? = some (.cells cur e (0, 0))
  | .u, _, _, h, g, hg => by rw [show _ = Ly.no from h] at hg; simp [Ly.bs] at hg
  | .r x, _, _, h, g, hg => by rcases h.2 with h | ⟨_, ⟨_, h⟩ | ⟨_, _, _, _, _, h⟩⟩ <;> (rw [h] at hg; simp [Ly.bs] at hg)
  | .own _ _ l, _, _, h, g, hg => by
    obtain ⟨_, ⟨_, _, h⟩ | ⟨g1, cap, cur, e, _, h, h2, _⟩⟩ := h
    · rw [h] at hg; simp [Ly.bs] at hg
    · rw [h] at hg; simp [Ly.bs, Ly.bsL] at hg; subst hg; exact ⟨cur, e, h2⟩
  | .ow sz l, _, _, h, g, hg => by
    obtain ⟨_, g1, cap, cur, e, cs, _, h, h2, _, _, _, h4⟩ := h
    rw [h] at hg; simp only [Ly.bs, List.mem_cons] at hg
    rcases hg with rfl | hg
    · exact ⟨cur, e, h2⟩
    · exact blkE_ok sz g1 0 l cs h4 g hg
  | .bx l, _, _, h, g, hg => by
    obtain ⟨g1, off, cs, cur, e, _, h, h2, h4⟩ := h
    rw [h] at hg; simp only [Ly.bs, List.mem_cons] at hg
    rcases hg with rfl | hg
    · exact ⟨cur, e, h2⟩
    · exact blkC_ok g1 off l cs h4 g hg
  | .p .., _, _, h, g, hg => by rw [h.1] at hg; simp [Ly.bs] at hg
  | .v .., _, _, h, g, hg => by rw [h.1] at hg; simp [Ly.bs] at hg
  | .cp .., _, _, h, g, hg => by rw [h.1] at hg; simp [Ly.bs] at hg
  | .f .., _, _, h, g, hg => by rw [h.1] at hg; simp [Ly.bs] at hg
  | .a l, vs, _, h, g, hg => by
    obtain ⟨cs, hL, h⟩ := h
    rw [hL] at hg
    exact blkL_ok l vs cs h g (by simpa [Ly.bs] using hg)
  | .tp b l, _, _, h, g, hg => by
    obtain ⟨tv, cs, _, hL, h⟩ := h
    rw [hL] at hg
    exact blkL_ok l tv.toList cs h g (by simpa [Ly.bs] using hg)
  termination_by structural x => x
theorem blkL_ok : ∀ (l : List T) (vs : List Value) (cs : List Ly), TCL w RO Ls l vs cs → ∀ g ∈ Ly.bsL cs, ∃ cur e, w.heap[g]? = some (.cells cur e (0, 0))
  | [], _, _, h, g, hg => by rw [h.2] at hg; simp [Ly.bsL] at hg
  | t :: l, _, _, h, g, hg => by
    obtain ⟨v, vs', L, cs', _, hc, h1, h2⟩ := h
    rw [hc] at hg
    simp only [Ly.bsL, List.mem_append] at hg
    rcases hg with hg | hg
    · exact blk_ok t [v] L h1 g hg
    · exact blkL_ok l vs' cs' h2 g hg
  termination_by structural x => x
theorem blkC_ok (g1 : Nat) : ∀ (off : Nat) (l : List T) (cs : List Ly), TCC w RO Ls g1 off l cs → ∀ g ∈ Ly.bsL cs, ∃ cur e, w.heap[g]? = some (.cells cur e (0, 0))
  | _, [], _, h, g, hg => by rw [show _ = [] from h] at hg; simp [Ly.bsL] at hg
  | off, t :: l, _, h, g, hg => by
    obtain ⟨v, L, cs', hc, _, h1, h2⟩ := h
    rw [hc] at hg
    simp only [Ly.bsL, List.mem_append] at hg
    rcases hg with hg | hg
    · exact blk_ok t [v] L h1 g hg
    · exact blkC_ok g1 (off + 1) l cs' h2 g hg
  termination_by structural _ x => x
theorem blkE_ok (sz g1 : Nat) : ∀ (off : Nat) (l : List T) (cs : List Ly), TCE w RO Ls sz g1 off l cs → ∀ g ∈ Ly.bsL cs, ∃ cur e, w.heap[g]? = some (.cells cur e (0, 0))
  | _, [], _, h, g, hg => by rw [show _ = [] from h] at hg; simp [Ly.bsL] at hg
  | off, t :: l, _, h, g, hg => by
    obtain ⟨vs, L, cs', _, _, hc, _, h1, h2⟩ := h
    rw [hc, bsL_append, bs_un] at hg
    simp only [List.mem_append] at hg
    rcases hg with hg | hg
    · exact blk_ok t vs L h1 g hg
    · exact blkE_ok sz g1 (off + sz) l cs' h2 g hg
  termination_by structural _ x => x
end
theorem setLy_none : ∀ (q : Pth) (L N : Ly), lyAt L q = none → setLy L q N = L
  | [], L, N, h => by rw [lyAt_nil] at h; cases h
  | x :: q, L, N, h => by
    rw [lyAt_cons] at h
    have key : ∀ (cs : List Ly) (k : Nat), (∀ K, cs[k]? = some K → lyAt K q = none) → (cs.modify k fun L => setLy L q N) = cs := by
      intro cs k hk
      apply List.ext_getElem?
      intro i
      rw [modify_get]
      split
      · rename_i e; subst e
        cases hc : cs[k]? with
        | none => rfl
        | some K => simp [setLy_none q K N (hk K hc)]
      · rfl
    cases L <;> cases x <;> simp only [setLy]
    all_goals
      rw [key]
      intro K hK
      simpa [kid, hK] using h
theorem set_none : ∀ (q : Pth) (t : T) (vs : List Value) (L : Ly) (c : T), TC w RO Ls t vs L → getT re t q = some c → setT re t q .u = none → lyAt L q = none
  | [], t, vs, L, c, h, hg, hs => by rw [setT_nil] at hs; cases hs
  | x :: q, t, vs, L, c, h, hg, hs => by
    rw [lyAt_cons]
    cases t with
    | bx l =>
      cases x with
      | d o =>
        obtain ⟨g, off, cs, cur, e, hv, hL, hgg, h4⟩ := h
        subst hL
        simp only [getT] at hg
        cases hl : l[o]? with
        | none => simp [hl] at hg
        | some x1 =>
          simp only [hl] at hg
          simp only [setT, hl] at hs
          obtain ⟨v1, L1, hcell, hcs, hT⟩ := TCC_get h4 hl
          simp only [kid, hcs, Option.bind_some]
          refine set_none q x1 [v1] L1 c hT hg ?_
          cases hx : setT re x1 q .u with
          | none => rfl
          | some y => simp [hx] at hs
      | _ => simp [getT] at hg
    | a l =>
      cases x with
      | t k =>
        obtain ⟨cs, hL, h⟩ := h
        subst hL
        simp only [getT] at hg
        cases hl : l[k]? with
        | none => simp [hl] at hg
        | some x1 =>
          simp only [hl] at hg
          simp only [setT, hl] at hs
          obtain ⟨v1, L1, _, hcs, hT⟩ := TCL_get h hl
          simp only [kid, hcs, Option.bind_some]
          refine set_none q x1 [v1] L1 c hT hg ?_
          cases hx : setT re x1 q .u with
          | none => rfl
          | some y => simp [hx] at hs
      | _ => simp [getT] at hg
    | tp b l =>
      cases x with
      | t k =>
        obtain ⟨tv, cs, hv, hL, h⟩ := h
        subst hL
        simp only [getT] at hg
        cases hl : l[k]? with
        | none => simp [hl] at hg
        | some x1 =>
          simp only [hl] at hg
          simp only [setT, hl] at hs
          obtain ⟨v1, L1, _, hcs, hT⟩ := TCL_get h hl
          simp only [kid, hcs, Option.bind_some]
          refine set_none q x1 [v1] L1 c hT hg ?_
          cases hx : setT re x1 q .u with
          | none => rfl
          | some y => simp [hx] at hs
      | _ => simp [getT] at hg
    | own fl sz l =>
      cases x with
      | e i sz' o =>
        obtain ⟨_, ⟨_, _, hL⟩ | ⟨g, cap, cur, e, hv, hL, _⟩⟩ := h <;> subst hL <;> simp [kid]
      | _ => simp [getT] at hg
    | ow sz l =>
      cases x with
      | e i sz' o =>
        obtain ⟨_, g, cap, cur, e, cs, hv, hL, hgg, _, _, _, h4⟩ := h
        subst hL
        simp only [getT] at hg
        by_cases hsz : sz = sz'
        · subst hsz
          simp only [beq_self_eq_true] at hg
          cases hl : l[i]? with
          | none => simp [hl] at hg
          | some y =>
            simp only [hl] at hg
            cases ho : y.cells[o]? with
            | none => simp [ho] at hg
            | some c1 =>
              simp only [ho] at hg
              simp only [setT, beq_self_eq_true, hl, ho] at hs
              obtain ⟨vs, L2, h5, h6, h7, h8, h9⟩ := TCE_get h4 hl
              obtain ⟨v1, L1, hv1, hu, hT⟩ := TC_cell h9 (by rw [h5, h6]) ho
              have hlt : o < sz := by have := (List.getElem?_eq_some_iff.1 hv1).1; omega
              have hcs : cs[i * sz + o]? = some L1 := (h8 o hlt).trans hu
              simp only [kid, hcs, Option.bind_some]
              refine set_none q c1 [v1] L1 c hT hg ?_
              cases hx : setT re c1 q .u with
              | none => rfl
              | some y => simp [hx] at hs
        · have : (sz == sz') = false := by simp [hsz]
          simp [this] at hg
      | _ => simp [getT] at hg
    | r y =>
      rcases h.2 with hm | ⟨_, ⟨_, hm⟩ | ⟨_, _, _, _, _, hm⟩⟩ <;> (rw [hm]; cases x <;> simp [kid])
    | _ => cases x <;> simp [getT] at hg
  termination_by q => q
theorem TV_mem {t c t' : T} {q : Pth} {v : Value} {L : Ly} (hm : q.all Sp.mem = true) (hq : q ≠ []) (hs : setT re t q c = some t') (h : TV w RO Ls t v L) : TC w RO Ls t [v] L ∧ (∀ {w' RO' Ls' L'}, TC w' RO' Ls' t' [v] L' → TV w' RO' Ls' t' v L') := by
  cases q with
  | nil => exact absurd rfl hq
  | cons x q =>
    simp only [List.all_cons, Bool.and_eq_true] at hm
    cases x with
    | t k => simp [Sp.mem] at hm
    | d k =>
      cases t <;> simp only [setT] at hs
      case bx l =>
        refine ⟨h, ?_⟩
        split at hs
        · split at hs
          · cases hs; exact fun h => h
          · cases hs
        · cases hs
      all_goals cases hs
    | e i sz k =>
      cases t with
      | own fl sz0 l =>
        refine ⟨h, ?_⟩
        cases q with
        | cons y q => simp [setT] at hs
        | nil => cases c with
          | r c1 =>
            simp only [setT] at hs
            split at hs
            · split at hs
              · cases hs; exact fun h => h
              · cases hs
            · cases hs
          | _ => simp [setT] at hs
      | ow sz0 l =>
        refine ⟨h, ?_⟩
        simp only [setT] at hs
        split at hs
        · split at hs
          · split at hs
            · cases hs; exact fun h => h
            · cases hs
          · cases hs
        · cases hs
      | _ => cases q <;> simp [setT] at hs
theorem store1 {tm : Array Value} (h : Rel w RO Ls s tm) {r : Nat} {q : Pth} {c old : T} {v : Value} {s1 : List T} {L0 : Ly} {g o : Nat} (h0 : Ls[r]? = some L0) (had : adAt L0 q = some (g, o)) (hm : q.all Sp.mem = true)
    (hold : getP re s r q = some old) (hfree : lyAt L0 q = none ∨ lyAt L0 q = some .no) (hs : setP re s r q c = some s1) (h1 : c.one = true) (hc : TC w RO Ls c [v] .no) :
    ∃ w', (store ⟨g, o, none⟩ v).run P w = .ok () w' ∧ Rel w' RO Ls s1 tm ∧ Ext w RO Ls [r] w' RO Ls := by
  have hq := adAt_ne had
  obtain ⟨t', ht, rfl⟩ := setP_slot hs
  have hL0 : Ls.getD r .no = L0 := by simp [List.getD_eq_getElem?_getD, h0]
  have hlt : r < Ls.length := (List.getElem?_eq_some_iff.1 h0).1
  have hr := h.slot r
  rw [hL0] at hr
  obtain ⟨hTC, hback⟩ := TV_mem hm hq ht hr
  have hg := set_mem q _ _ L0 t' hm hq hTC ht had
  have hgL : g ∈ (Ls.getD r .no).bs := by rw [hL0]; exact hg
  have hro : ¬ RO g := (h.own g (getD_mem hgL)).2
  obtain ⟨cur, e, hblk⟩ := blk_ok _ _ L0 hTC g hg
  obtain ⟨v0, _, hcell⟩ := Rel.found (a := { tmps := tm, defers := [] }) h hold hq h0
  have hcell := (hcell g o had).1
  have hW := Wr.mk' (w := w) (g := g) (o := o) (vn := v) hcell
  have hfr : w.frozen? ⟨g, o, none⟩ = false := by simp [World.frozen?, hblk]
  refine ⟨w.setCell ⟨g, o, none⟩ v, by rw [run_store P w _ v .plain (one_cell h1 hc), hcell]; simp [hfr], ?_, ?_⟩
  · have hnd := nodup_of_get h.nodup h0
    have hcW : TC (w.setCell ⟨g, o, none⟩ v) RO Ls c [v] .no := TC_apart hW hro (by simp [Ly.bs]) hc
    have hnew := setC_ok hW hro (N := .no) rfl hcW q _ _ L0 t' hm hq hTC hnd ht had
    have hLs : setLy L0 q .no = L0 := by
      rcases hfree with hf | hf
      · exact setLy_none q L0 .no hf
      · exact setLy_self q L0 .no hf
    rw [hLs] at hnew
    refine ⟨by simp [h.len], by simp [h.lenL], fun j => ?_, h.nodup, fun g' hg' => ⟨by rw [hW.size]; exact (h.own g' hg').1, (h.own g' hg').2⟩, fun g' hg' => by rw [hW.size]; exact h.ro g' hg'⟩
    rw [slot_set]
    by_cases ej : j = r
    · subst ej
      rw [if_pos ⟨rfl, by rw [← h.lenL]; exact hlt⟩, hL0]
      exact hback hnew
    · rw [if_neg (by simp [ej])]
      refine TV_frame (fun k hk => hW.other k (fun e => hro (e ▸ hk))) (fun _ h => h) (fun k hk => hW.other k fun e => ?_) (fun r _ L0 h0 _ => h0) (h.slot j)
      subst e
      exact ej (getD_disj h.nodup hk hgL)
  · refine ⟨rfl, rfl, rfl, by rw [hW.size]; exact Nat.le_refl _, fun k hk hr => hW.other k fun e => ?_, fun _ h => h, fun _ h => .inl h, fun _ h => .inl h, fun _ _ => rfl⟩
    subst e
    exact hr r (by simp) hgL
end
end Go.Os
set_option linter.unusedVariables false
namespace Go.Os
theorem stepBy_mem : ∀ (q : Pth) (k : Nat), (stepBy q k).all Sp.mem = q.all Sp.mem
  | [], _ => rfl
  | [.d o], _ => rfl
  | [.e i sz o], _ => rfl
  | [.t k], _ => rfl
  | x :: y :: q, k => by
    have hs : stepBy (x :: y :: q) k = x :: stepBy (y :: q) k := by cases x <;> rfl
    rw [hs, List.all_cons, List.all_cons, stepBy_mem (y :: q) k]
theorem stepBy_len : ∀ (q : Pth) (k : Nat), (stepBy q k).length = q.length
  | [], _ => rfl
  | [.d o], _ => rfl
  | [.e i sz o], _ => rfl
  | [.t k], _ => rfl
  | x :: y :: q, k => by
    have hs : stepBy (x :: y :: q) k = x :: stepBy (y :: q) k := by cases x <;> rfl
    rw [hs, List.length_cons, List.length_cons, stepBy_len (y :: q) k]
section
variable {P : Program} {w : World} {RO : Nat → Prop} {Ls : List Ly} {a : Act} {s : List T}
theorem cell_no {t : T} {v : Value} {L : Ly} (h1 : cellT t = true) (ho : owner t = false) (h : TC w RO Ls t [v] L) : L = .no := by
  cases t with
  | a l => simp [cellT, T.one] at h1
  | tp b l => simp [cellT, T.one] at h1
  | u => exact h
  | r x =>
    rcases h.2 with hm | ⟨⟨sz, l, rfl⟩, _⟩
    · exact hm
    · simp [owner] at ho
  | own fl sz l => simp [owner] at ho
  | ow sz l => simp [owner] at ho
  | bx l => simp [owner] at ho
  | p r q => exact h.1
  | v r q sz wd => exact h.1
  | cp l k => exact h.1
  | f g c => exact h.1
theorem free_ok {E : Env} (hE : E.A = re) {tm : Array Value} (h : Rel w RO Ls s tm) {r : Nat} {q : Pth} {old : T} {L0 : Ly} (h0 : Ls[r]? = some L0) (hq : q ≠ []) (hold : getP re s r q = some old) (hf : free E s r q old = true) :
    lyAt L0 q = none ∨ lyAt L0 q = some .no := by
  unfold free at hf
  simp only [Bool.and_eq_true] at hf
  obtain ⟨h1, hf⟩ := hf
  have hr := h.slot r
  have hL0 : Ls.getD r .no = L0 := by simp [List.getD_eq_getElem?_getD, h0]
  rw [hL0] at hr
  cases ho : owner old with
  | false =>
    obtain ⟨v', hp, _⟩ := Rel.found (a := { tmps := tm, defers := [] }) h hold hq h0
    rcases hp with ⟨L', hL', hT⟩ | ⟨hn, _⟩
    · right; rw [hL', cell_no h1 ho hT]
    · exact .inl hn
  | true =>
    rw [ho, hE] at hf
    have hs : setT re (slot s r) q .u = none := by
      unfold setP at hf
      cases hx : setT re (slot s r) q .u with
      | none => rfl
      | some y => simp [hx] at hf
    left
    unfold getP at hold
    generalize hsl : slot s r = t at *
    cases t with
    | a l =>
      obtain ⟨vs, cs, _, hL, hT⟩ := hr
      exact set_none q (.a l) vs.toList L0 old ⟨cs, hL, hT⟩ hold hs
    | r x =>
      cases q with
      | nil => exact absurd rfl hq
      | cons y q =>
        rcases hr.2 with hm | ⟨_, ⟨_, hm⟩ | ⟨_, _, _, _, _, hm⟩⟩ <;> (rw [lyAt_cons, hm]; cases y <;> simp [kid])
    | _ => exact set_none q _ [tm.getD r undef] L0 old hr hold hs
theorem dropL_ok {E : Env} (hE : E.A = re) {tm : Array Value} {r : Nat} {q : Pth} {g o : Nat} {vs : List Value} {ds : List Ly} : ∀ (n k : Nat) (s cs : List T) (W : List Nat) (y : List T × List T × List Nat) (Ls : List Ly) (L0 : Ly),
    Rel w RO Ls s tm → TCL w RO Ls cs vs ds → Ls[r]? = some L0 → adAt L0 q = some (g, o) → dropL E s cs W r q k n = some y →
    ∃ Ls1 L01, Rel w RO Ls1 y.1 tm ∧ Ext w RO Ls y.2.2 w RO Ls1 ∧ TCL w RO Ls1 y.2.1 vs ds ∧ Ls1[r]? = some L01 ∧ adAt L01 q = some (g, o) ∧ (∀ x ∈ W, x ∈ y.2.2)
  | 0, k, s, cs, W, y, Ls, L0, h, hT, h0, had, hd => by
    simp only [dropL, Option.some.injEq] at hd; subst hd
    exact ⟨Ls, L0, h, (Ext.refl _ _ _).mono (by simp), hT, h0, had, fun x hx => hx⟩
  | n + 1, k, s, cs, W, y, Ls, L0, h, hT, h0, had, hd => by
    simp only [dropL, Option.bind_eq_some_iff, hE] at hd
    obtain ⟨old, hold, hd⟩ := hd
    split at hd
    · split at hd
      · rename_i s1 hs1
        have hlt : r < s.length := by rw [← h.lenL]; exact (List.getElem?_eq_some_iff.1 h0).1
        obtain ⟨M0, Ls1, hM0, hLs1, hR1, hX1⟩ := rel_drop h hlt hs1 (.inl rfl)
        rw [h0] at hM0; cases hM0
        have hT1 : TCL w RO Ls1 (killL r (stepBy q k) cs) vs ds := by
          rw [hLs1]
          exact TCL_map (fun _ _ => rfl) (fun _ h => h) cs vs ds (fun _ _ => rfl) (maps_kill h0 _) hT
        have h01 : Ls1[r]? = some (setLy L0 (stepBy q k) .no) := by rw [hLs1, List.getElem?_set_self (List.getElem?_eq_some_iff.1 h0).1]
        have had1 : adAt (setLy L0 (stepBy q k) .no) q = some (g, o) := ad_set _ _ _ _ _ had (by simp [stepBy_len])
        obtain ⟨Ls2, L02, h1, h2, h3, h4, h5, h6⟩ := dropL_ok hE n (k + 1) s1 _ _ y Ls1 _ hR1 hT1 h01 had1 hd
        refine ⟨Ls2, L02, h1, (hX1.trans hR1.nodup h2).mono fun x hx => ?_, h3, h4, h5, fun x hx => h6 x (by simp [hx])⟩
        simp only [List.mem_append, List.mem_singleton] at hx
        rcases hx with rfl | hx
        · exact h6 x (by simp)
        · exact hx
      · exact dropL_ok hE n (k + 1) s cs W y Ls L0 h hT h0 had hd
    · exact dropL_ok hE n (k + 1) s cs W y Ls L0 h hT h0 had hd
theorem storeC_ok {E : Env} (hE : E.A = re) {c : T} {q : Pth} {r : Nat} {W : List Nat} {e : Eff} (hs : storeC E s W r q c = some e) {v : Value} {L : Ly} (hT : TC w RO Ls c [v] L) :
    c.one = true ∧ TC w RO Ls c [v] .no ∧ ∃ s1, setP re s r q c = some s1 ∧ e = (s1, r :: W) := by
  unfold storeC at hs
  split at hs
  · rename_i hc
    simp only [Option.map_eq_some_iff, hE] at hs
    obtain ⟨s1, hs1, rfl⟩ := hs
    have : c.one = true ∧ TC w RO Ls c [v] .no := by
      simp only [Bool.or_eq_true, Bool.and_eq_true] at hc
      rcases hc with ⟨h1, h2⟩ | ⟨_, h1⟩
      · cases c with
        | r x => exact ⟨h2, hT.1, .inl rfl⟩
        | _ => simp [isR] at h1
      · cases c with
        | v r1 q1 sz wd => exact ⟨rfl, rfl, hT.2⟩
        | p r1 q1 => exact ⟨rfl, rfl, hT.2⟩
        | f g1 c1 => exact ⟨rfl, rfl, hT.2⟩
        | cp l1 o1 => exact ⟨rfl, rfl, hT.2⟩
        | _ => simp [isRefT] at h1
    exact ⟨this.1, this.2, s1, hs1, rfl⟩
  · cases hs
theorem Ext.heapRO {w w1 : World} {RO RO1 : Nat → Prop} {Ls Ls1 : List Ly} {W : List Nat} {s : List T} {tm : Array Value} (h : Rel w RO Ls s tm) (hX : Ext w RO Ls W w1 RO1 Ls1) : ∀ g, RO g → w1.heap[g]? = w.heap[g]? :=
  fun g hg => hX.blk g (h.ro g hg) fun r _ hr => (h.own g (getD_mem hr)).2 hg
theorem storeL_ok {E : Env} (hE : E.A = re) {tm : Array Value} {r : Nat} {q : Pth} {g o : Nat} {L0 : Ly} (hm : q.all Sp.mem = true) (had : adAt L0 q = some (g, o)) (h0 : Ls[r]? = some L0) : ∀ (l : List T) (vs : List Value) (ds : List Ly) (k : Nat) (s : List T) (W : List Nat) (e : Eff) (w : World),
    Rel w RO Ls s tm → TCL w RO Ls l vs ds → Ly.bsL ds = [] → storeL E s W r q k l = some e →
    ∃ w', (storeCells ⟨g, o, none⟩ vs k).run P w = .ok () w' ∧ Rel w' RO Ls e.1 tm ∧ Ext w RO Ls e.2 w' RO Ls ∧ (∀ x ∈ W, x ∈ e.2)
  | [], vs, ds, k, s, W, e, w, h, hT, hb, hs => by
    simp only [storeL, Option.some.injEq] at hs; subst hs
    rw [hT.1]
    exact ⟨w, rfl, h, (Ext.refl _ _ _).mono (by simp), fun x hx => hx⟩
  | c :: l, vs, ds, k, s, W, e, w, h, hT, hb, hs => by
    obtain ⟨v, vs', L, ds', hv, hds, h1, h2⟩ := hT
    subst hv hds
    simp only [Ly.bsL, List.append_eq_nil_iff] at hb
    simp only [storeL, Option.bind_eq_some_iff, hE] at hs
    obtain ⟨old, hold, hs⟩ := hs
    split at hs
    · cases hs
    · rename_i hfree
      simp only [Option.bind_eq_some_iff] at hs
      obtain ⟨e1, he1, hs⟩ := hs
      obtain ⟨hone, hTc, s1, hs1, rfl⟩ := storeC_ok hE he1 h1
      have hadk := adAt_stepBy q L0 (k := k) had
      obtain ⟨w1, hrun, hR1, hX1⟩ := store1 (P := P) h h0 hadk (by rw [stepBy_mem]; exact hm) hold (free_ok hE h h0 (adAt_ne hadk) hold hfree) hs1 hone hTc
      have hT2 : TCL w1 RO Ls l vs' ds' := by
        have := TCL_map (fp := .p) (fv := .v) (Ls' := Ls) (hX1.heapRO h) (fun _ h => h) l vs' ds' (fun k hk => by rw [hb.2] at hk; simp at hk) (Maps.keeps fun r _ L0 h0 _ => h0) h2
        rwa [mapL_id] at this
      obtain ⟨w2, h3, h4, h5, h6⟩ := storeL_ok hE hm had h0 l vs' ds' (k + 1) s1 _ e w1 hR1 hT2 hb.2 hs
      refine ⟨w2, ?_, h4, (hX1.trans hR1.nodup h5).mono fun x hx => ?_, fun x hx => h6 x (by simp [hx])⟩
      · simp only [storeCells]
        rw [Sem.run_bind, Addr.add_lit, hrun]
        exact h3
      · simp only [List.mem_append, List.mem_singleton] at hx
        rcases hx with rfl | hx
        · exact h6 x (by simp)
        · exact hx
theorem op_store {o : Oper} {t : TypeId} {x y : Operand} (ho : o.op = .store t x y) (hdst : o.dst = none) {E : Env} (hE : E.A = re) (hti : E.ti = tiOf P) (h : Rel w RO Ls s a.tmps) {e : Eff}
    (he : evStore E s t (opd s x) (opd s y) = some e) : OpOK P w RO Ls a o e := by
  unfold evStore at he
  simp only [Option.bind_eq_some_iff, hti] at he
  obtain ⟨ti, hti', he⟩ := he
  obtain ⟨i, d, hi, hd, _, hsz, _, _, _⟩ := ti_info hti'
  obtain ⟨Lx, hX, _⟩ := opd_ok h x
  obtain ⟨Ly', hY, hbY⟩ := opd_ok h y
  split at he
  · rename_i r q hx
    rw [hx] at hX
    obtain ⟨_, L0, g, ofs, h0, had, hv⟩ := hX
    simp only [List.cons.injEq, and_true] at hv
    simp only [Option.bind_eq_some_iff] at he
    obtain ⟨cs, hcs, he⟩ := he
    split at he
    · rename_i hchk
      simp only [Bool.and_eq_true, decide_eq_true_eq] at hchk
      simp only [Option.bind_eq_some_iff] at he
      obtain ⟨z, hz, he⟩ := he
      obtain ⟨ds, hds, hbd, _, _⟩ := cells_ok hY hcs
      obtain ⟨Ls1, L01, h1, h2, h3, h4, h5, _⟩ := dropL_ok hE ti.sz 0 s cs [] z Ls L0 h hds h0 had hz
      obtain ⟨w', h6, h7, h8, h9⟩ := storeL_ok (P := P) hE hchk.2 h5 h4 z.2.1 _ ds 0 z.1 z.2.2 e w h1 h3 (hbd hbY) he
      have hlen := (TCL_len hds).1
      have hrun : (execOp a.eval o).run P w = .ok .skip w' := by
        have hs : ¬ ((a.eval y).cells.size ≠ i.size) := by simp at hlen; omega
        simp only [execOp, ho, Instr.storeAt, hv, Instr.sureAddr, storeVar]
        simp only [Sem.run_bind, Sem.run_pure, Result.andThen_ok, run_size hi, if_neg hs, h6]
      intro K Q hK
      unfold Oper.wp
      rw [hrun]
      have hp : (a.put o.dst undef) = a := by rw [hdst]; rfl
      rw [Oper.upon_skip, hp]
      exact hK a w' RO Ls1 h7 rfl ((h2.trans h1.nodup h8).mono fun x hx => by
        simp only [List.mem_append] at hx
        rcases hx with hx | hx
        · exact h9 x hx
        · exact hx)
    · cases he
  · cases he
end
end Go.Os
