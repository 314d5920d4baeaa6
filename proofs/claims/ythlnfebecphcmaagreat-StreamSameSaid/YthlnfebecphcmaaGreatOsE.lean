/-
  The evaluator of the model's code over pure trees, and its soundness: part E of 8.
-/
import Derived.Test.YthlnfebecphcmaaGreatOsD
import Derived.Orders
set_option linter.unusedVariables false
set_option linter.unusedSimpArgs false
set_option linter.unusedVariables false
namespace Go.Os
def Pur (s : List T) (e : Eff) : Prop := ∀ x, x ∉ e.2 → slot e.1 x = slot s x
section
variable {r : Nat} {q : Pth} {fv : Nat → Pth → Nat → Option (Nat × Nat) → T}
mutual
theorem hit_mapG (hfv : ∀ r' q' sz w, hangsV r q r' q' = false → fv r' q' sz w = .v r' q' sz w) : ∀ t : T, hit r q t = false → mapT (killP r q) fv t = t
  | .u, _ => rfl
  | .r _, _ => rfl
  | .own .., _ => rfl
  | .ow sz l, h => by simp [mapT, hit_mapLG hfv l (by simpa [hit] using h)]
  | .bx l, h => by simp [mapT, hit_mapLG hfv l (by simpa [hit] using h)]
  | .a l, h => by simp [mapT, hit_mapLG hfv l (by simpa [hit] using h)]
  | .tp b l, h => by simp [mapT, hit_mapLG hfv l (by simpa [hit] using h)]
  | .f g l, h => by simp [mapT, hit_mapLG hfv l (by simpa [hit] using h)]
  | .p r' q', h => by
    have h : hangsP r q r' q' = false := by simpa [hit] using h
    simp [mapT, killP, h]
  | .v r' q' sz w, h => by
    have h : hangsV r q r' q' = false := by simpa [hit] using h
    simp [mapT, hfv r' q' sz w h]
  | .cp .., _ => rfl
  termination_by structural x => x
theorem hit_mapLG (hfv : ∀ r' q' sz w, hangsV r q r' q' = false → fv r' q' sz w = .v r' q' sz w) : ∀ l : List T, hitL r q l = false → mapL (killP r q) fv l = l
  | [], _ => rfl
  | t :: l, h => by
    simp only [hitL, Bool.or_eq_false_iff] at h
    simp [mapL, hit_mapG hfv t h.1, hit_mapLG hfv l h.2]
  termination_by structural x => x
end
end
theorem hit_map {r : Nat} {q : Pth} (t : T) (h : hit r q t = false) : mapT (killP r q) (killV r q) t = t :=
  hit_mapG (fun r' q' sz w h => by simp [killV, h]) t h
theorem hit_sink {r : Nat} {q : Pth} (t : T) (h : hit r q t = false) : mapT (killP r q) (sinkV r q) t = t :=
  hit_mapG (fun r' q' sz w h => by
    have : hangsP r q r' q' = false := by
      simp only [hangsV] at h
      simp [hangsP, h]
    simp [sinkV, this]) t h
mutual
theorem deepHit_map {rs : List Nat} : ∀ t : T, deepHit rs t = false → mapT (deepP rs) (deepV rs) t = t
  | .u, _ => rfl
  | .r _, _ => rfl
  | .own .., _ => rfl
  | .ow sz l, h => by simp [mapT, deepHit_mapL l (by simpa [deepHit] using h)]
  | .bx l, h => by simp [mapT, deepHit_mapL l (by simpa [deepHit] using h)]
  | .a l, h => by simp [mapT, deepHit_mapL l (by simpa [deepHit] using h)]
  | .tp b l, h => by simp [mapT, deepHit_mapL l (by simpa [deepHit] using h)]
  | .f g l, h => by simp [mapT, deepHit_mapL l (by simpa [deepHit] using h)]
  | .p r' q', h => by simp only [deepHit] at h; simp only [mapT, deepP, h]
  | .v r' q' sz w, h => by simp only [deepHit] at h; simp only [mapT, deepV, h]
  | .cp .., _ => rfl
  termination_by structural x => x
theorem deepHit_mapL {rs : List Nat} : ∀ l : List T, deepHitL rs l = false → mapL (deepP rs) (deepV rs) l = l
  | [], _ => rfl
  | t :: l, h => by
    simp only [deepHitL, Bool.or_eq_false_iff] at h
    simp [mapL, deepHit_map t h.1, deepHit_mapL l h.2]
  termination_by structural x => x
end
theorem slot_nil (x : Nat) : slot [] x = .u := rfl
theorem hits_spec {r : Nat} {q : Pth} : ∀ (l : List T) (j x : Nat), j + x ∉ hits.go r q j l → hit r q (slot l x) = false
  | [], _, _, _ => by simp [slot_nil, hit]
  | t :: l, j, x, h => by
    unfold hits.go at h
    cases ht : hit r q t with
    | true =>
      simp only [ht, List.mem_cons, not_or] at h
      cases x with
      | zero => simp at h
      | succ x => rw [slot_cons_succ]; exact hits_spec l (j + 1) x (by rw [show j + 1 + x = j + (x + 1) by omega]; exact h.2)
    | false =>
      simp only [ht] at h
      cases x with
      | zero => rw [slot_cons_zero]; exact ht
      | succ x => rw [slot_cons_succ]; exact hits_spec l (j + 1) x (by rw [show j + 1 + x = j + (x + 1) by omega]; exact h)
theorem killAll_pur {s : List T} {r : Nat} {q : Pth} {x : Nat} (h : x ∉ hits r q s) : slot (killAll r q s) x = slot s x := by
  rw [killAll, killL, mapL_getD]
  exact hit_map _ (hits_spec s 0 x (by rw [Nat.zero_add]; exact h))
theorem sinkAll_pur {s : List T} {r : Nat} {q : Pth} {x : Nat} (h : x ∉ hits r q s) : slot (sinkAll r q s) x = slot s x := by
  rw [sinkAll, mapL_getD]
  exact hit_sink _ (hits_spec s 0 x (by rw [Nat.zero_add]; exact h))
theorem allHits_spec {rs : List Nat} : ∀ (l : List T) (j x : Nat), j + x ∉ allHits rs j l → deepHit rs (slot l x) = false
  | [], _, _, _ => by simp [slot_nil, deepHit]
  | t :: l, j, x, h => by
    unfold allHits at h
    cases ht : deepHit rs t with
    | true =>
      simp only [ht, List.mem_cons, not_or] at h
      cases x with
      | zero => simp at h
      | succ x => rw [slot_cons_succ]; exact allHits_spec l (j + 1) x (by rw [show j + 1 + x = j + (x + 1) by omega]; exact h.2)
    | false =>
      simp only [ht] at h
      cases x with
      | zero => rw [slot_cons_zero]; exact ht
      | succ x => rw [slot_cons_succ]; exact allHits_spec l (j + 1) x (by rw [show j + 1 + x = j + (x + 1) by omega]; exact h)
theorem setP_pur {A : Pr} {s s' : List T} {r : Nat} {q : Pth} {c : T} (h : setP A s r q c = some s') {x : Nat} (hx : x ≠ r) : slot s' x = slot s x := by
  unfold setP at h
  split at h
  · cases h; rw [slot_set, if_neg (fun h => hx h.1)]
  · cases h
theorem setD_pur (s : List T) (d : Nat) (t : T) : Pur s (setD s d t) := by
  intro x hx
  unfold setD at hx ⊢
  split at hx
  · simp only [List.mem_cons, not_or] at hx
    show slot ((killAll d [] s).set d (kill d [] t)) x = slot s x
    rw [slot_set, if_neg (fun h => hx.1 h.1), killAll_pur hx.2]
  · simp only [List.mem_cons, List.not_mem_nil, or_false] at hx
    show slot (s.set d t) x = slot s x
    rw [slot_set, if_neg (fun h => hx h.1)]
theorem putD_pur (s : List T) (d : Option Nat) (t : T) : Pur s (putD s d t) := by
  cases d with
  | none => exact fun _ _ => rfl
  | some d => exact setD_pur s d t
theorem retT_pur {s : List T} {d : Option Nat} {t : Option T} {e : Eff} (h : retT s d t = some e) : Pur s e := by
  simp only [retT, Option.map_eq_some_iff] at h
  obtain ⟨t, _, rfl⟩ := h
  exact putD_pur s d t
theorem retR_pur {s : List T} {d : Option Nat} {t : Option R} {e : Eff} (h : retR s d t = some e) : Pur s e := by
  simp only [retR, Option.map_eq_some_iff] at h
  obtain ⟨t, _, rfl⟩ := h
  exact putD_pur s d (.r t)
theorem freezeAll_pur {E : Env} : ∀ (l : List (Nat × Pth)) (s : List T) (W : List Nat) (e : Eff), freezeAll E s W l = some e → Pur s e
  | [], s, W, e, h => by simp only [freezeAll, Option.some.injEq] at h; subst h; exact fun _ _ => rfl
  | p :: l, s, W, e, h => by
    have hW := fun (W' : List Nat) (s' : List T) (h : freezeAll E s' W' l = some e) => freezeAll_W l s' W' e h
    simp only [freezeAll, Option.bind_eq_some_iff] at h
    obtain ⟨t, ht, h⟩ := h
    intro x hx
    split at h
    · simp only [Option.bind_eq_some_iff] at h
      obtain ⟨s', hs', h⟩ := h
      rw [freezeAll_pur l s' _ e h x hx]
      exact setP_pur hs' fun e' => hx (hW _ _ h x (by simp [e']))
    · simp only [Option.bind_eq_some_iff] at h
      obtain ⟨ys, hys, s', hs', h⟩ := h
      rw [freezeAll_pur l s' _ e h x hx, setP_pur hs' fun e' => hx (hW _ _ h x (by simp [e']))]
      exact sinkAll_pur fun hm => hx (hW _ _ h x (by simp [hm]))
    · exact freezeAll_pur l s W e h x hx
    · cases h
theorem Pur.trans {s s1 : List T} {W : List Nat} {e e' : Eff} (h : Pur s (s1, W)) (k : Pur s1 e) (he : e'.1 = e.1) (hW : ∀ x, x ∈ W ∨ x ∈ e.2 → x ∈ e'.2) : Pur s e' := fun x hx => by
  rw [he, k x fun h => hx (hW x (.inr h))]
  exact h x fun h => hx (hW x (.inl h))
theorem dropL_pur {E : Env} {r : Nat} {q : Pth} : ∀ (n k : Nat) (s cs : List T) (W : List Nat) (y : List T × List T × List Nat), dropL E s cs W r q k n = some y → (∀ x ∈ W, x ∈ y.2.2) ∧ Pur s (y.1, y.2.2)
  | 0, k, s, cs, W, y, h => by simp only [dropL, Option.some.injEq] at h; subst h; exact ⟨fun _ h => h, fun _ _ => rfl⟩
  | n + 1, k, s, cs, W, y, h => by
    simp only [dropL, Option.bind_eq_some_iff] at h
    obtain ⟨old, _, h⟩ := h
    split at h
    · split at h
      · rename_i s1 hs1
        obtain ⟨h1, h2⟩ := dropL_pur n (k + 1) s1 _ _ y h
        refine ⟨fun x hx => h1 x (by simp [hx]), fun x hx => ?_⟩
        rw [h2 x hx, setP_pur hs1 fun e => hx (h1 x (by simp [e]))]
        exact killAll_pur fun hm => hx (h1 x (by simp [hm]))
      · exact dropL_pur n (k + 1) s cs W y h
    · exact dropL_pur n (k + 1) s cs W y h
theorem storeL_pur {E : Env} {r : Nat} {q : Pth} : ∀ (l : List T) (k : Nat) (s : List T) (W : List Nat) (e : Eff), storeL E s W r q k l = some e → (∀ x ∈ W, x ∈ e.2) ∧ Pur s e
  | [], k, s, W, e, h => by simp only [storeL, Option.some.injEq] at h; subst h; exact ⟨fun _ h => h, fun _ _ => rfl⟩
  | c :: l, k, s, W, e, h => by
    simp only [storeL, Option.bind_eq_some_iff] at h
    obtain ⟨old, _, h⟩ := h
    split at h
    · cases h
    · simp only [Option.bind_eq_some_iff] at h
      obtain ⟨e1, he1, h⟩ := h
      obtain ⟨h1, h2⟩ := storeL_pur l (k + 1) e1.1 e1.2 e h
      unfold storeC at he1
      split at he1
      · simp only [Option.map_eq_some_iff] at he1
        obtain ⟨s1, hs1, rfl⟩ := he1
        refine ⟨fun x hx => h1 x (by simp [hx]), fun x hx => ?_⟩
        rw [h2 x hx]
        exact setP_pur hs1 fun e => hx (h1 x (by simp [e]))
      · cases he1
theorem takeIn_pur {E : Env} : ∀ (n : Nat) (s : List T) (W : List Nat) (l : List T) (y : List T × List T × List Nat), takeIn E s W n l = some y → (∀ x ∈ W, x ∈ y.2.2) ∧ Pur s (y.2.1, y.2.2)
  | 0, s, W, l, y, h => by
    unfold takeIn at h
    split at h
    · cases h; exact ⟨fun _ h => h, fun _ _ => rfl⟩
    · cases h
  | n + 1, s, W, l, y, h => by
    unfold takeIn at h
    split at h
    · cases h
    · split at h
      · simp only [Option.map_eq_some_iff] at h
        obtain ⟨z, hz, rfl⟩ := h
        exact takeIn_pur n s W _ z hz
      · simp only [Option.bind_eq_some_iff, Option.map_eq_some_iff] at h
        obtain ⟨w, hw, s1, hs1, z, hz, rfl⟩ := h
        obtain ⟨h1, h2⟩ := takeIn_pur n s1 _ _ z hz
        refine ⟨fun x hx => h1 x (by simp [hx]), fun x hx => ?_⟩
        show slot z.2.1 x = slot s x
        rw [h2 x hx, setP_pur hs1 fun e => hx (h1 x (by simp [e]))]
        exact killAll_pur fun hm => hx (h1 x (by simp [hm]))
theorem setAll_pur : ∀ (rs : List Nat) (bs : List T) (s s' : List T), setAll s rs bs = some s' → ∀ x, x ∉ rs → slot s' x = slot s x
  | [], bs, s, s', h, x, _ => by
    cases bs with
    | nil => simp only [setAll, Option.some.injEq] at h; subst h; rfl
    | cons b bs => simp [setAll] at h
  | r :: rs, bs, s, s', h, x, hx => by
    cases bs with
    | nil => simp [setAll] at h
    | cons b bs =>
      simp only [setAll] at h
      simp only [List.mem_cons, not_or] at hx
      rw [setAll_pur rs bs _ s' h x hx.2, slot_set, if_neg (fun h => hx.1 h.1)]
theorem doCall_pur {E : Env} {s : List T} {d : Option Nat} {f : FuncId} {args : List T} {e : Eff} (h : doCall E s d f args = some e) : Pur s e := by
  unfold doCall at h
  simp only [Option.bind_eq_some_iff] at h
  obtain ⟨hh, _, h⟩ := h
  split at h
  · cases h
  · simp only [Option.bind_eq_some_iff, Option.map_eq_some_iff] at h
    obtain ⟨res, hres, fz, hfz, s1, hs1, rfl⟩ := h
    intro x hx
    simp only [List.mem_append, not_or] at hx
    show slot (putD s1 d res.1).1 x = slot s x
    rw [putD_pur s1 d res.1 x hx.2]
    have h1 : slot s1 x = slot fz.1 x := by
      unfold backBoxes at hs1
      split at hs1
      · split at hs1
        · cases hs1; rfl
        · cases hs1
      · simp only [Option.bind_eq_some_iff] at hs1
        obtain ⟨ts, _, hs1⟩ := hs1
        split at hs1
        · exact setAll_pur _ _ _ _ hs1 x hx.1.2.1
        · rename_i r0 rb hrb
          rw [setAll_pur _ _ _ _ hs1 x hx.1.2.1, mapL_getD]
          have := hx.1.2.2
          rw [hrb] at this
          exact deepHit_map _ (allHits_spec fz.1 0 x (by simpa using this))
    rw [h1]
    split at hfz
    · cases hfz; rfl
    · exact freezeAll_pur _ s [] fz hfz x hx.1.1
theorem evOp_pur {E : Env} {s : List T} {o : Oper} {e : Eff} (h : evOp E s o = some e) : Pur s e := by
  unfold evOp at h
  split at h
  case h_1 => cases h; exact putD_pur _ _ _
  case h_2 =>
    unfold evAssign at h
    split at h
    · simp only [Option.bind_eq_some_iff] at h
      obtain ⟨te, _, h⟩ := h
      split at h
      · cases h
      · cases h; exact putD_pur _ _ _
    · split at h
      · simp only [Option.bind_eq_some_iff, Option.map_eq_some_iff] at h
        obtain ⟨y, _, f, hf, rfl⟩ := h
        exact (freezeAll_pur _ s [] f hf).trans (putD_pur _ _ _) rfl (by simp)
      · cases h; exact putD_pur _ _ _
  case h_7 =>
    unfold evBuildSlice at h
    simp only [Option.bind_eq_some_iff] at h
    obtain ⟨te, _, z, _, h⟩ := h
    split at h
    · cases h
    · simp only [Option.bind_eq_some_iff] at h
      obtain ⟨l, _, h⟩ := h
      split at h
      · simp only [Option.map_eq_some_iff] at h
        obtain ⟨ys, _, rfl⟩ := h
        exact putD_pur _ _ _
      · split at h
        · simp only [Option.map_eq_some_iff] at h
          obtain ⟨ys, _, rfl⟩ := h
          exact putD_pur _ _ _
        · simp only [Option.bind_eq_some_iff, Option.map_eq_some_iff] at h
          obtain ⟨y, hy, ys, _, rfl⟩ := h
          exact (takeIn_pur _ s [] _ y hy).2.trans (putD_pur _ _ _) rfl (by simp)
  case h_9 =>
    split at h
    · unfold evStore at h
      simp only [Option.bind_eq_some_iff] at h
      obtain ⟨ty, _, h⟩ := h
      split at h
      · simp only [Option.bind_eq_some_iff] at h
        obtain ⟨cs, _, h⟩ := h
        split at h
        · simp only [Option.bind_eq_some_iff] at h
          obtain ⟨y, hy, h⟩ := h
          obtain ⟨h1, h2⟩ := dropL_pur _ _ _ _ _ y hy
          obtain ⟨h3, h4⟩ := storeL_pur _ _ _ _ e h
          exact h2.trans h4 rfl fun x hx => hx.elim (h3 x) id
        · cases h
      · cases h
    · cases h
  case h_22 =>
    unfold evCall at h
    split at h
    · split at h
      · split at h
        · split at h
          · exact doCall_pur h
          · exact doCall_pur h
        · cases h
      · cases h
    · unfold evBuiltin at h
      split at h
      · split at h
        · exact retR_pur h
        · cases h
      · exact retT_pur h
      · exact retT_pur h
      · split at h
        · unfold evAppend at h
          simp only [Option.bind_eq_some_iff, Option.map_eq_some_iff] at h
          obtain ⟨f, hf, e1, he1, rfl⟩ := h
          have hp : Pur s f := by
            unfold frozen at hf
            split at hf
            · split at hf
              · exact freezeAll_pur _ s [] f hf
              · cases hf; exact fun _ _ => rfl
            · cases hf; exact fun _ _ => rfl
          refine hp.trans (e := e1) ?_ rfl (by simp)
          unfold evAppend1 at he1
          split at he1
          · cases he1
          · simp only [Option.bind_eq_some_iff] at he1
            obtain ⟨te, _, z, _, ys, _, he1⟩ := he1
            split at he1
            · cases he1
            · split at he1
              · split at he1
                · cases he1; exact putD_pur _ _ _
                · cases he1
              · split at he1
                · cases he1
                · simp only [Option.bind_eq_some_iff] at he1
                  obtain ⟨t0, _, he1⟩ := he1
                  split at he1
                  · split at he1
                    · simp only [Option.map_eq_some_iff] at he1
                      obtain ⟨s1, hs1, rfl⟩ := he1
                      intro x hx
                      simp only [List.mem_cons, List.mem_append, not_or] at hx
                      show slot (putD s1 _ _).1 x = _
                      rw [putD_pur _ _ _ x hx.2.2, setP_pur hs1 hx.1, killAll_pur hx.2.1]
                    · cases he1
                  · cases he1
              · cases he1
        · cases h
      · split at h
        · unfold evCopy at h
          split at h
          · cases h
          · simp only [Option.bind_eq_some_iff] at h
            obtain ⟨te, _, ys, _, n, _, h⟩ := h
            split at h
            · cases h
            · split at h
              · simp only [Option.bind_eq_some_iff] at h
                obtain ⟨t0, _, h⟩ := h
                split at h
                · split at h
                  · cases h
                  · simp only [Option.map_eq_some_iff] at h
                    obtain ⟨s1, hs1, rfl⟩ := h
                    intro x hx
                    simp only [List.mem_cons, not_or] at hx
                    show slot (putD s1 _ _).1 x = _
                    rw [putD_pur _ _ _ x hx.2, setP_pur hs1 hx.1]
                · cases h
              · cases h
        · cases h
      · cases h
    · cases h
  all_goals first | exact retT_pur h | exact retR_pur h | cases h
end Go.Os
set_option linter.unusedVariables false
namespace Go.Os
section
variable {P : Program} {w : World} {RO : Nat → Prop} {Ls : List Ly} {a : Act} {s : List T}
theorem args_opd (h : Rel w RO Ls s a.tmps) : ∀ l : List Operand, ArgsV w RO Ls (l.map (opd s)) (l.map a.eval)
  | [] => rfl
  | x :: l => by
    obtain ⟨L, hT, hb⟩ := opd_ok h x
    exact ⟨a.eval x, l.map a.eval, L, rfl, hT, hb, args_opd h l⟩
theorem args_cap : ∀ (l : List T) (vs : List Value), l.all isP = true → TCF w RO Ls l vs → ArgsV w RO Ls l vs
  | [], vs, _, h => h
  | t :: l, vs, hp, h => by
    simp only [List.all_cons, Bool.and_eq_true] at hp
    obtain ⟨v, vs', hv, h1, h2⟩ := h
    refine ⟨v, vs', .no, hv, ?_, rfl, args_cap l vs' hp.2 h2⟩
    cases t with
    | p r q => exact h1
    | _ => simp [isP] at hp
theorem args_app : ∀ (l m : List T) (vs us : List Value), ArgsV w RO Ls l vs → ArgsV w RO Ls m us → ArgsV w RO Ls (l ++ m) (vs ++ us)
  | [], m, vs, us, h, k => by rw [show vs = [] from h]; exact k
  | t :: l, m, vs, us, h, k => by
    obtain ⟨v, vs', L, hv, h1, h2, h3⟩ := h
    exact ⟨v, vs' ++ us, L, by rw [hv]; rfl, h1, h2, args_app l m vs' us h3 k⟩
theorem op_call {o : Oper} {c : Call} {g : Operand} (ho : o.op = .call c) (hc : c.callee = .value g) {E : Env} (hE : E.A = re) (hcall : CallOK P E.call) (h : Rel w RO Ls s a.tmps) {f : FuncId} {cap : List T}
    (hg : opd s g = .f f cap) (hp : cap.all isP = true) {e : Eff} (he : (match decide (f < mvK) with
        | true => doCall E s o.dst f (c.args.toList.map (opd s) ++ cap)
        | false => doCall E s o.dst (f - mvK) (cap ++ c.args.toList.map (opd s))) = some e) : OpOK P w RO Ls a o e := by
  obtain ⟨L, hT, _⟩ := opd_ok h g
  rw [hg] at hT
  obtain ⟨_, cv, hv, hcv⟩ := hT
  simp only [List.cons.injEq, and_true] at hv
  have run : ∀ (f : FuncId), (∃ fn, P.funcs[f]? = some fn ∧ fn.body.isNone = false ∧ fn.name ≠ "runtime.NumGoroutine") → ∀ args, (callFunc f args).run P w = .ok (.enter f args) w := by
    rintro f ⟨fn, h1, h2, h3⟩ args
    have h4 : (fn.name == "runtime.NumGoroutine") = false := by simpa using h3
    unfold callFunc
    rw [Sem.run_bind, show (program).run P w = .ok P w from rfl]
    simp only [Result.andThen_ok, h1, h4, h2, Bool.false_eq_true, if_false]
    rfl
  cases hf : decide (f < mvK) with
  | true =>
    rw [hf] at he
    unfold fnV at hv
    rw [hf] at hv
    have hA : ArgsV w RO Ls (c.args.toList.map (opd s) ++ cap) (c.args.map a.eval ++ cv).toList := by
      rw [Array.toList_append, Array.toList_map]
      exact args_app _ _ _ _ (args_opd h _) (args_cap cap cv.toList hp hcv)
    refine call_ok (vs := c.args.map a.eval ++ cv) hE hcall ?_ h hA he
    intro hfn
    simp [execOp, ho, resolve, hc, hv, Deferred.ofValue, invoke, run f hfn]
  | false =>
    rw [hf] at he
    unfold fnV at hv
    rw [hf] at hv
    have hA : ArgsV w RO Ls (cap ++ c.args.toList.map (opd s)) (cv ++ c.args.map a.eval).toList := by
      rw [Array.toList_append, Array.toList_map]
      exact args_app _ _ _ _ (args_cap cap cv.toList hp hcv) (args_opd h _)
    refine call_ok (vs := cv ++ c.args.map a.eval) hE hcall ?_ h hA he
    intro hfn
    simp [execOp, ho, resolve, hc, hv, Deferred.ofValue, invoke, run (f - mvK) hfn]
theorem evOp_ok {o : Oper} {E : Env} (hE : E.A = re) (hti : E.ti = tiOf P) (hcall : CallOK P E.call) (h : Rel w RO Ls s a.tmps) {e : Eff} (he : evOp E s o = some e) : OpOK P w RO Ls a o e := by
  have he0 := he
  have retT' : ∀ {t : Option T} {e : Eff}, retT s o.dst t = some e → ∃ c, t = some c ∧ e = putD s o.dst c := fun {t e} h => by
    simp only [retT, Option.map_eq_some_iff] at h
    obtain ⟨c, h1, h2⟩ := h
    exact ⟨c, h1, h2.symm⟩
  have retR' : ∀ {t : Option R} {e : Eff}, retR s o.dst t = some e → ∃ c, t = some c ∧ e = putD s o.dst (.r c) := fun {t e} h => by
    simp only [retR, Option.map_eq_some_iff] at h
    obtain ⟨c, h1, h2⟩ := h
    exact ⟨c, h1, h2.symm⟩
  unfold evOp at he
  split at he
  · rename_i x ho; cases he; exact op_move ho h
  · rename_i x ho; exact op_assign ho hE hti h he
  · rename_i ho; obtain ⟨c, h1, rfl⟩ := retT' he; exact op_pick ho h h1
  · rename_i ho; obtain ⟨c, h1, rfl⟩ := retT' he; exact op_alloc ho hti h h1
  · rename_i ho; obtain ⟨c, h1, rfl⟩ := retT' he; exact op_box ho h h1
  · rename_i ho; obtain ⟨c, h1, rfl⟩ := retT' he; exact op_build ho hE hti h h1
  · rename_i ho; exact op_buildSlice ho hE hti h he
  · rename_i ho; obtain ⟨c, h1, rfl⟩ := retT' he; exact op_load ho hE hti h h1
  · rename_i ho
    split at he
    · rename_i hd; exact op_store ho hd hE hti h he
    · cases he
  · rename_i ho; obtain ⟨c, h1, rfl⟩ := retT' he; exact op_nilChk ho h h1
  · rename_i ho; obtain ⟨c, h1, rfl⟩ := retR' he; exact op_bin ho hE hti h h1
  · rename_i ho; obtain ⟨c, h1, rfl⟩ := retR' he; exact op_un ho h hE h1
  · rename_i ho; obtain ⟨c, h1, rfl⟩ := retR' he; exact op_conv ho h hE hti h1
  · rename_i ho; obtain ⟨c, h1, rfl⟩ := retT' he; exact op_func ho h h1
  · rename_i ho; obtain ⟨c, h1, rfl⟩ := retT' he; exact op_make ho hE hti h h1
  · rename_i ho; obtain ⟨c, h1, rfl⟩ := retT' he; exact op_slice ho hE hti h h1
  · rename_i ho; obtain ⟨c, h1, rfl⟩ := retT' he; exact op_fieldAddr ho hti h h1
  · rename_i ho; obtain ⟨c, h1, rfl⟩ := retT' he; exact op_field ho hti h h1
  · rename_i ho; obtain ⟨c, h1, rfl⟩ := retT' he; exact op_indexAddr ho hE hti h h1
  · rename_i ho; obtain ⟨c, h1, rfl⟩ := retT' he; exact op_index ho hE hti h h1
  · rename_i ho; obtain ⟨c, h1, rfl⟩ := retT' he; exact op_extract ho h h1
  · rename_i c ho
    unfold evCall at he
    split at he
    · rename_i g hc
      split at he
      · rename_i f cap hg
        split at he
        · rename_i hp; exact op_call ho hc hE hcall h hg hp he
        · cases he
      · cases he
    · rename_i b hc
      unfold evBuiltin at he
      split at he
      · split at he
        · rename_i t x htys hargs
          obtain ⟨r, h1, rfl⟩ := retR' he
          exact op_len ho hc hargs htys hE hti h h1
        · cases he
      · obtain ⟨r, h1, rfl⟩ := retT' he; exact op_min ho hc hE h h1
      · obtain ⟨r, h1, rfl⟩ := retT' he; exact op_max ho hc hE h h1
      · split at he
        · rename_i htys hargs; exact op_append ho hc hargs htys hE hti h he
        · cases he
      · split at he
        · rename_i htys hargs; exact op_copy ho hc hargs htys hE hti h he
        · cases he
      · cases he
    · cases he
  · cases he
theorem Oper.wp_put {P : Program} {o : Oper} {a : Act} {w : World} {K : Act → World → Prop} {Q : Exit → Act → World → Prop} (h : o.wp P a w (fun a' w' => a'.defers = a.defers ∧ K a' w') Q) :
    o.wp P a w (fun a' w' => (∃ v, a' = a.put o.dst v) ∧ K a' w') Q := by
  unfold Go.Oper.wp at *
  generalize (execOp a.eval o).run P w = r at *
  cases r with
  | ok n w' =>
    cases n with
    | value v => exact ⟨⟨v, rfl⟩, h.2⟩
    | skip => exact ⟨⟨undef, rfl⟩, h.2⟩
    | defer d =>
      exfalso
      have h1 := h.1
      have : ({ a with defers := d :: a.defers }.put o.dst undef).defers = d :: a.defers := by cases o.dst <;> rfl
      rw [this] at h1
      have := congrArg List.length h1
      simp at this
    | enter f args =>
      refine Calls.mono h fun e w'' he => ?_
      cases e with
      | returned v => exact ⟨⟨v, rfl⟩, he.2⟩
      | panicked c => exact he
      | outgrown => exact he
    | row row args => exact Rows.mono h fun v w'' he => ⟨⟨v, rfl⟩, he.2⟩
    | _ => exact h
  | halt x w' => cases x <;> exact h
theorem OpOK.put {o : Oper} {e : Eff} (h : OpOK P w RO Ls a o e) {K : Act → World → Prop} {Q : Exit → Act → World → Prop}
    (hK : ∀ v w' RO' Ls', Rel w' RO' Ls' e.1 (a.put o.dst v).tmps → Ext w RO Ls e.2 w' RO' Ls' → K (a.put o.dst v) w') : o.wp P a w K Q := by
  have h1 := h (fun a' w' => a'.defers = a.defers ∧ ∃ RO' Ls', Rel w' RO' Ls' e.1 a'.tmps ∧ Ext w RO Ls e.2 w' RO' Ls') Q fun a' w' RO' Ls' hR hd hX => ⟨hd, RO', Ls', hR, hX⟩
  refine Oper.wp_mono (fun a' w' hh => ?_) (Oper.wp_put h1)
  obtain ⟨⟨v, rfl⟩, RO', Ls', hR, hX⟩ := hh
  exact hK v w' RO' Ls' hR hX
structure ExtA (w : World) (RO : Nat → Prop) (Ls : List Ly) (w' : World) (RO' : Nat → Prop) (Ls' : List Ly) : Prop where
  os : w'.os = w.os
  tape : w'.tape = w.tape
  output : w'.output = w.output
  size : w.heap.size ≤ w'.heap.size
  blk : ∀ k, k < w.heap.size → k ∉ Ly.bsL Ls → w'.heap[k]? = w.heap[k]?
  ro : ∀ g, RO g → RO' g
  ro' : ∀ g, RO' g → RO g ∨ g ∈ Ly.bsL Ls ∨ w.heap.size ≤ g
  own : ∀ g ∈ Ly.bsL Ls', g ∈ Ly.bsL Ls ∨ w.heap.size ≤ g
theorem Ext.all {W : List Nat} {w' : World} {RO' : Nat → Prop} {Ls' : List Ly} (h : Ext w RO Ls W w' RO' Ls') : ExtA w RO Ls w' RO' Ls' :=
  ⟨h.os, h.tape, h.output, h.size, fun k hk hn => h.blk k hk fun r _ hm => hn (getD_mem hm), h.ro, h.ro', h.own⟩
theorem ExtA.refl (w : World) (RO : Nat → Prop) (Ls : List Ly) : ExtA w RO Ls w RO Ls := (Ext.refl w RO Ls).all
theorem ExtA.trans {w1 w2 : World} {RO1 RO2 : Nat → Prop} {Ls1 Ls2 : List Ly} (h : ExtA w RO Ls w1 RO1 Ls1) (k : ExtA w1 RO1 Ls1 w2 RO2 Ls2) : ExtA w RO Ls w2 RO2 Ls2 where
  os := k.os.trans h.os
  tape := k.tape.trans h.tape
  output := k.output.trans h.output
  size := Nat.le_trans h.size k.size
  blk g hg hn := by
    rw [k.blk g (Nat.lt_of_lt_of_le hg h.size) fun hm => ?_, h.blk g hg hn]
    rcases h.own g hm with h1 | h1
    · exact hn h1
    · omega
  ro g hg := k.ro g (h.ro g hg)
  ro' g hg := by
    rcases k.ro' g hg with h1 | h1 | h1
    · exact h.ro' g h1
    · rcases h.own g h1 with h2 | h2
      · exact .inr (.inl h2)
      · exact .inr (.inr h2)
    · exact .inr (.inr (Nat.le_trans h.size h1))
  own g hg := by
    rcases k.own g hg with h1 | h1
    · exact h.own g h1
    · exact .inr (Nat.le_trans h.size h1)
theorem Rel.drawn {tm : Array Value} (h : Rel w RO Ls s tm) (n : Nat) : Rel { w with drawn := n } RO Ls s tm :=
  h.new (w' := { w with drawn := n }) ⟨rfl, rfl, rfl, Nat.le_refl _, fun _ _ => rfl⟩ (fun _ h => h) fun _ h => .inl h
theorem ExtA.drawn (w : World) (RO : Nat → Prop) (Ls : List Ly) (n : Nat) : ExtA w RO Ls { w with drawn := n } RO Ls :=
  ⟨rfl, rfl, rfl, Nat.le_refl _, fun _ _ _ => rfl, fun _ h => h, fun _ h => .inl h, fun _ h => .inl h⟩
theorem wants_ok {all : List Oper} {E : Env} (hE : E.A = re) (h : Rel w RO Ls s a.tmps) {o : Oper} {b : Bool} (hw : wants E all s o = some b) : Region.wanted o (yielded all.toArray a.tmps) = b := by
  unfold wants at hw
  unfold Region.wanted
  cases hg : o.guard with
  | none => simp only [hg, Option.some.injEq] at hw ⊢; exact hw
  | some g =>
    obtain ⟨j, want⟩ := g
    simp only [hg, Option.bind_eq_some_iff] at hw ⊢
    obtain ⟨t, ⟨oj, hj, hd⟩, hw⟩ := hw
    have hy : yielded all.toArray a.tmps j = match a.tmps[t]? with | some (.bool b) => some b | _ => none := by
      unfold yielded
      simp only [List.getElem?_toArray, hj, Option.bind_some, hd]
      rfl
    rw [hy]
    have hs := h.slot t
    rcases Nat.lt_or_ge t a.tmps.size with hlt | hlt
    · have hv : a.tmps[t]? = some (a.tmps.getD t undef) := by simp [Array.getD_eq_getD_getElem?, hlt]
      rw [hv]
      split at hw
      · rename_i hsl
        cases hw
        rw [hsl] at hs
        obtain ⟨tv, cs, hvv, _, hc⟩ := hs
        simp only [List.cons.injEq, and_true] at hvv
        rw [hvv]
        rfl
      · simp only [Option.map_eq_some_iff] at hw
        obtain ⟨x, hx, hw⟩ := hw
        have := boolT_ok hs hx
        rw [this]
        cases want <;> cases x <;> simp_all [re]
    · have h0 : slot s t = .u := slot_ge (by rw [← h.len]; exact hlt)
      rw [h0] at hw
      simp [boolT] at hw
theorem put_undef_ok (h : Rel w RO Ls s a.tmps) (d : Option Nat) : ∃ Ls', Rel w RO Ls' (putD s d (.tp true [])).1 (a.put d undef).tmps ∧ Ext w RO Ls (putD s d (.tp true [])).2 w RO Ls' := by
  obtain ⟨Ls', h1, h2, h3, h4⟩ := put_ok (a := a) (d := d) (t := .tp true []) (v := undef) (L := .ag []) h ⟨#[], [], rfl, rfl, rfl, rfl⟩ (by simp [Ly.bs, Ly.bsL]) (by simp [Ly.bs, Ly.bsL])
  exact ⟨Ls', h1, rfl, rfl, rfl, Nat.le_refl _, fun _ _ _ => rfl, fun _ h => h, fun _ h => .inl h, fun g hg => by
    rcases h3 g hg with h | h
    · simp [Ly.bs, Ly.bsL] at h
    · exact .inl h, h4⟩
theorem put_defers' (a : Act) (d : Option Nat) (v : Value) : (a.put d v).defers = a.defers := by cases d <;> rfl
theorem put_other (a : Act) (d : Option Nat) (v : Value) {x : Nat} (h : ∀ y, d = some y → x ≠ y) : (a.put d v).tmps.getD x undef = a.tmps.getD x undef := by
  cases d with
  | none => rfl
  | some d => rw [put_some, arr_getD_set, if_neg (fun e => h d rfl e.1)]
structure Stay (D : Nat → Prop) (a a' : Act) : Prop where
  defers : a'.defers = a.defers
  tmps : ∀ j, D j → a'.tmps.getD j undef = a.tmps.getD j undef
  size : a'.tmps.size = a.tmps.size
theorem Stay.refl (D : Nat → Prop) (a : Act) : Stay D a a := ⟨rfl, fun _ _ => rfl, rfl⟩
theorem Stay.trans {D : Nat → Prop} {a b c : Act} (h : Stay D a b) (k : Stay D b c) : Stay D a c := ⟨k.defers.trans h.defers, fun j hj => (k.tmps j hj).trans (h.tmps j hj), k.size.trans h.size⟩
theorem Stay.put {D : Nat → Prop} {a : Act} {x : Option Nat} (h : ∀ d, x = some d → ¬ D d) (v : Value) : Stay D a (a.put x v) :=
  ⟨put_defers' a x v, fun j hj => put_other a x v fun y hy e => h y hy (e ▸ hj), by cases x <;> simp [Act.put]⟩
theorem evR_ok {E : Env} (hE : E.A = re) (hti : E.ti = tiOf P) (hcall : CallOK P E.call) {all : List Oper} {D : Nat → Prop} (hDst : ∀ o ∈ all, ∀ d, o.dst = some d → ¬ D d) {Q : Exit → Act → World → Prop} : ∀ (l : List Oper) (k : Nat) (s s' : List T) (w : World) (RO : Nat → Prop) (Ls : List Ly) (a : Act),
    all.drop k = l → evR E all l s = some s' → Rel w RO Ls s a.tmps →
    (∀ a' w' RO' Ls', Rel w' RO' Ls' s' a'.tmps → Stay D a a' → ExtA w RO Ls w' RO' Ls' → Q .normal a' w') →
    wpOps P all.toArray Q (List.range' k l.length) a w
  | [], k, s, s', w, RO, Ls, a, hk, he, h, hQ => by
    simp only [evR, Option.some.injEq] at he; subst he
    exact hQ a w RO Ls h (Stay.refl _ _) (ExtA.refl _ _ _)
  | o :: l, k, s, s', w, RO, Ls, a, hk, he, h, hQ => by
    have hlt : k < all.length := by
      rcases Nat.lt_or_ge k all.length with h | h
      · exact h
      · rw [List.drop_eq_nil_of_le h] at hk; cases hk
    have hok : all[k]? = some o := by
      have := List.drop_eq_getElem_cons hlt
      rw [hk] at this
      simp only [List.cons.injEq] at this
      rw [List.getElem?_eq_getElem hlt, this.1]
    have hk' : all.drop (k + 1) = l := by
      have := List.drop_eq_getElem_cons hlt
      rw [hk] at this
      simp only [List.cons.injEq] at this
      exact this.2.symm
    simp only [evR, Option.bind_eq_some_iff] at he
    obtain ⟨b, hb, he⟩ := he
    have hw := wants_ok hE h hb
    show wpOps P all.toArray Q (List.range' k (l.length + 1)) a w
    rw [List.range'_succ]
    unfold wpOps
    simp only [List.getElem?_toArray, hok, hw]
    cases b with
    | true =>
      simp only [Option.bind_eq_some_iff] at he
      obtain ⟨e, he1, he⟩ := he
      simp only [if_true]
      refine .inl ((evOp_ok hE hti hcall h he1).put fun v w' RO' Ls' hR hX => ?_)
      exact evR_ok hE hti hcall hDst l (k + 1) e.1 s' w' RO' Ls' _ hk' he hR fun a2 w2 RO2 Ls2 h1 h2 h3 => hQ a2 w2 RO2 Ls2 h1 ((Stay.put (hDst o (List.mem_of_getElem? hok)) v).trans h2) (hX.all.trans h3)
    | false =>
      simp only [Bool.false_eq_true, if_false]
      obtain ⟨Ls', h1, h2⟩ := put_undef_ok h o.dst
      exact evR_ok hE hti hcall hDst l (k + 1) _ s' w RO Ls' _ hk' he h1 fun a2 w2 RO2 Ls2 h3 h4 h5 => hQ a2 w2 RO2 Ls2 h3 ((Stay.put (hDst o (List.mem_of_getElem? hok)) undef).trans h4) (h2.all.trans h5)
end
end Go.Os
set_option linter.unusedVariables false
namespace Go.Os
theorem beforeL_spec : ∀ (rest : List Oper) (acc : List Nat) (k : Nat) (o : Oper), rest[k]? = some o →
    (∃ T, CheckFast.beforeL rest acc.length acc = acc.reverse ++ T) ∧
    (CheckFast.beforeL rest acc.length acc).getD (acc.length + k) 0 = CheckFast.one (fun i => if i < acc.length + k then (CheckFast.beforeL rest acc.length acc).getD i 0 else 0) o := by
  have pre : ∀ (rest : List Oper) (acc : List Nat), ∃ T, CheckFast.beforeL rest acc.length acc = acc.reverse ++ T := by
    intro rest
    induction rest with
    | nil => intro acc; exact ⟨[], by simp [CheckFast.beforeL]⟩
    | cons o rest ih =>
      intro acc
      rw [CheckFast.beforeL, CheckFast.force_eq]
      obtain ⟨T, hT⟩ := ih (CheckFast.one (fun i => if i < acc.length then acc.getD (acc.length - 1 - i) 0 else 0) o :: acc)
      simp only [List.length_cons] at hT
      exact ⟨_ :: T, by rw [hT]; simp; rfl⟩
  intro rest
  induction rest with
  | nil => intro acc k o h; simp at h
  | cons o' rest ih =>
    intro acc k o h
    refine ⟨pre _ _, ?_⟩
    rw [CheckFast.beforeL, CheckFast.force_eq]
    generalize hv : CheckFast.one (fun i => if i < acc.length then acc.getD (acc.length - 1 - i) 0 else 0) o' = v
    cases k with
    | zero =>
      simp only [List.getElem?_cons_zero, Option.some.injEq] at h
      subst h
      obtain ⟨T, hT⟩ := pre rest (v :: acc)
      simp only [List.length_cons] at hT
      rw [hT, Nat.add_zero]
      have h1 : ((v :: acc).reverse ++ T).getD acc.length 0 = v := by
        simp [List.getD_eq_getElem?_getD, List.getElem?_append]
      rw [h1, ← hv]
      congr 1
      funext i
      by_cases hi : i < acc.length
      · rw [if_pos hi, if_pos hi]
        simp only [List.getD_eq_getElem?_getD]
        rw [List.getElem?_append_left (by simp; omega), List.getElem?_reverse (by simp; omega)]
        simp only [List.length_cons]
        rw [show acc.length + 1 - 1 - i = (acc.length - 1 - i) + 1 by omega, List.getElem?_cons_succ]
      · rw [if_neg hi, if_neg hi]
    | succ k =>
      have := (ih (v :: acc) k o (by simpa using h)).2
      simp only [List.length_cons] at this
      rw [show acc.length + (k + 1) = acc.length + 1 + k by omega]
      exact this
theorem one_bit {look : Nat → Nat} {o : Oper} {i : Nat} : (CheckFast.one look o).testBit i = true ↔ ∃ e ∈ o.after.toList, Region.binds .any e = true ∧ (i = e.on ∨ (look e.on).testBit i = true) := by
  unfold CheckFast.one
  rw [← Array.foldl_toList]
  have : ∀ (l : List Edge) (s : Nat), (l.foldl (fun s e => if Region.binds .any e then s ||| 2 ^ e.on ||| look e.on else s) s).testBit i = true ↔ (s.testBit i = true ∨ ∃ e ∈ l, Region.binds .any e = true ∧ (i = e.on ∨ (look e.on).testBit i = true)) := by
    intro l
    induction l with
    | nil => intro s; simp
    | cons e l ih =>
      intro s
      rw [List.foldl_cons, ih]
      by_cases hb : Region.binds .any e = true
      · simp only [hb, if_true, Nat.testBit_or, Bool.or_eq_true, Nat.testBit_two_pow, decide_eq_true_eq, List.mem_cons, exists_eq_or_imp, true_and]
        constructor
        · rintro ((h | h) | h) 
          · rcases h with h | h
            · exact .inl h
            · exact .inr (.inl (.inl h.symm))
          · exact .inr (.inl (.inr h))
          · exact .inr (.inr h)
        · rintro (h | (h | h) | h)
          · exact .inl (.inl (.inl h))
          · exact .inl (.inl (.inr h.symm))
          · exact .inl (.inr h)
          · exact .inr h
      · simp only [hb, if_false, List.mem_cons, exists_eq_or_imp, Bool.false_eq_true, false_and, false_or]
  rw [this]; simp
end Go.Os
set_option linter.unusedVariables false
namespace Go.Os
theorem mem_dsts {bf : List Nat} {all : List Oper} {j x : Nat} : x ∈ dsts bf all j ↔ ∃ k o, all[k]? = some o ∧ k ≠ j ∧ ord bf k j = false ∧ o.dst = some x := by
  unfold dsts
  simp only [List.mem_filterMap, Prod.exists, List.mem_zipIdx_iff_getElem?]
  constructor
  · rintro ⟨o, k, h1, h2⟩
    split at h2
    · cases h2
    · rename_i hc
      simp only [Bool.or_eq_false_iff, beq_eq_false_iff_ne] at hc
      exact ⟨k, o, h1, hc.1, hc.2, h2⟩
  · rintro ⟨k, o, h1, h2, h3, h4⟩
    refine ⟨o, k, h1, ?_⟩
    rw [show (k == j || ord bf k j) = false by simp [h2, h3]]
    exact h4
theorem keepL_slot (k : Nat → Bool) : ∀ (s : List T) (j x : Nat), slot (keepL k j s) x = if k (j + x) = true then slot s x else .u
  | [], j, x => by simp [keepL, slot_nil]
  | t :: l, j, x => by
    cases x with
    | zero =>
      simp only [keepL, slot_cons_zero, Nat.add_zero]
      cases hk : k j <;> rfl
    | succ x =>
      simp only [keepL, slot_cons_succ]
      rw [keepL_slot k l (j + 1) x, show j + 1 + x = j + (x + 1) by omega]
theorem keepL_len (k : Nat → Bool) : ∀ (s : List T) (j : Nat), (keepL k j s).length = s.length
  | [], _ => rfl
  | t :: l, j => by simp [keepL, keepL_len k l (j + 1)]
theorem mixL_slot (W : List Nat) (s' : List T) : ∀ (s : List T) (j x : Nat), x < s.length → slot (mixL W j s' s) x = if j + x ∈ W then slot s' (j + x) else slot s x
  | [], j, x, h => by simp at h
  | t :: l, j, x, h => by
    cases x with
    | zero =>
      simp only [mixL, slot_cons_zero, Nat.add_zero]
      by_cases hw : j ∈ W
      · rw [show W.contains j = true by simpa using hw, if_pos hw]
      · rw [show W.contains j = false by simpa using hw, if_neg hw]
    | succ x =>
      simp only [mixL, slot_cons_succ]
      rw [mixL_slot W s' l (j + 1) x (by simpa using h), show j + 1 + x = j + (x + 1) by omega]
theorem mixL_len (W : List Nat) (s' : List T) : ∀ (s : List T) (j : Nat), (mixL W j s' s).length = s.length
  | [], _ => rfl
  | t :: l, j => by simp [mixL, mixL_len W s' l (j + 1)]
theorem slots_ext {s s' : List T} (hl : s.length = s'.length) (h : ∀ x, x < s.length → slot s x = slot s' x) : s = s' := by
  refine List.ext_getElem hl fun x h1 h2 => ?_
  have := h x h1
  simpa [slot, List.getD_eq_getElem?_getD, h1, h2] using this
theorem rootsIn_false {W : List Nat} {t : T} : rootsIn W t = false ↔ ∀ r ∈ roots t, r ∉ W := by
  unfold rootsIn
  rw [List.any_eq_false]
  simp
theorem refs_spec {m : List Nat} : ∀ (s : List T) (j x : Nat), rootsIn m (slot s x) = true → x < s.length → j + x ∈ refs m j s
  | [], j, x, _, h => by simp at h
  | t :: l, j, x, h, hlt => by
    unfold refs
    cases x with
    | zero =>
      rw [slot_cons_zero] at h
      simp [h]
    | succ x =>
      rw [slot_cons_succ] at h
      have := refs_spec l (j + 1) x h (by simpa using hlt)
      rw [show j + 1 + x = j + (x + 1) by omega] at this
      split
      · simp [this]
      · exact this
def Fact (E : Env) (all : List Oper) (bf : List Nat) (pw : List (Nat × List Nat)) (st : Nat → List T) (s s' : List T) (W : Nat → List Nat) (wd : Nat → Bool) (j : Nat) (o : Oper) : Prop :=
  bf.getD j 0 < 2 ^ j ∧ s'.length = s.length ∧ ∃ m : List Nat, (∀ x ∈ dsts bf all j, x ∈ m) ∧ ((∀ i < j, wd i = true → ord bf i j = false → ∀ x ∈ W i, x ∈ m) ∧ ∀ i V, (i, V) ∈ pw → j < i → ord bf j i = false → ∀ x ∈ V, x ∈ m) ∧
    (∀ x, x < s.length → x ∉ m → ∀ r ∈ roots (slot s x), r ∉ m) ∧
    ((∃ e, wants E all (keepL (fun x => !m.contains x) 0 s) o = some true ∧ evOp E (keepL (fun x => !m.contains x) 0 s) o = some e ∧ W j = e.2 ∧
        (∀ x, x < s.length → slot s' x = if x ∈ e.2 then slot e.1 x else slot s x) ∧ (∀ x ∈ e.2, x ∉ m) ∧ (∀ d, o.dst = some d → d ∉ m) ∧
        ((wd j = true ∧ ((∀ k < j, ord bf k j = true) ∨ ((∃ V, (j, V) ∈ pw ∧ ∀ x ∈ e.2, x ∈ V) ∧ (∀ i < j, ∀ x ∈ m, ∀ r ∈ roots (slot (st i) x), r ∉ e.2) ∧ ∀ i < j, wd i = true → ord bf i j = false → ∀ x ∈ e.2, ∀ r ∈ roots (slot e.1 x), r ∉ W i)) ∧ ∀ x ∈ m, ∀ r ∈ roots (slot s x), r ∉ e.2) ∨
         (wd j = false ∧ ∃ d, o.dst = some d ∧ e.2 = [d] ∧ owner (slot s d) = false ∧ ∀ i < j, wd i = true → ord bf i j = false → ∀ r ∈ roots (slot e.1 d), r ∉ W i))) ∨
     (wants E all (keepL (fun x => !m.contains x) 0 s) o = some false ∧ wd j = false ∧
        ((o.dst = none ∧ W j = [] ∧ s' = s) ∨ ∃ d, o.dst = some d ∧ W j = [d] ∧ d ∉ m ∧ owner (slot s d) = false ∧ s' = s.set d (.tp true []))))
theorem evD_fact {E : Env} {all : List Oper} {bf : List Nat} {pw : List (Nat × List Nat)} : ∀ (l : List Oper) (j : Nat) (ws : List (Nat × List Nat)) (hs : List (List T)) (s s' : List T) (st0 : Nat → List T) (W0 : Nat → List Nat) (wd0 : Nat → Bool),
    all.drop j = l → (∀ i V, (i, V) ∈ ws ↔ i < j ∧ wd0 i = true ∧ V = W0 i) → (∀ i < j, st0 i ∈ hs) → evD E all bf pw l j ws hs s = some s' →
    ∃ (st : Nat → List T) (W : Nat → List Nat) (wd : Nat → Bool), (∀ i < j, st i = st0 i ∧ W i = W0 i ∧ wd i = wd0 i) ∧ st j = s ∧ st (j + l.length) = s' ∧
      ∀ k o, j ≤ k → all[k]? = some o → Fact E all bf pw st (st k) (st (k + 1)) W wd k o
  | [], j, ws, hs, s, s', st0, W0, wd0, hd, hws, hhs, he => by
    simp only [evD, Option.some.injEq] at he
    subst he
    refine ⟨fun i => if i < j then st0 i else s, W0, wd0, fun i hi => ⟨by simp [hi], rfl, rfl⟩, by simp, by simp, fun k o hk ho => ?_⟩
    have : all.length ≤ j := by simpa using hd
    have := (List.getElem?_eq_some_iff.1 ho).1
    omega
  | o :: l, j, ws, hs, s, s', st0, W0, wd0, hd, hws, hhs, he => by
    have hlt : j < all.length := by
      rcases Nat.lt_or_ge j all.length with h | h
      · exact h
      · rw [List.drop_eq_nil_of_le h] at hd; cases hd
    have hcons := List.drop_eq_getElem_cons hlt
    rw [hd] at hcons
    simp only [List.cons.injEq] at hcons
    have hoj : all[j]? = some o := by rw [List.getElem?_eq_getElem hlt, hcons.1]
    have hd' : all.drop (j + 1) = l := hcons.2.symm
    unfold evD at he
    simp only at he
    generalize hlost : (ws.filter fun x => !ord bf x.1 j) = lost at he
    generalize hm1 : dsts bf all j ++ (lost.flatMap (·.2) ++ laterW bf pw j) = m1 at he
    generalize hm2 : m1 ++ refs m1 0 s = m2 at he
    generalize hm : m2 ++ refs m2 0 s = m at he
    have hsub : ∀ x ∈ m1, x ∈ m := fun x hx => by rw [← hm, ← hm2]; simp [hx]
    have hA : ∀ x ∈ dsts bf all j, x ∈ m := fun x hx => hsub x (by rw [← hm1]; simp [hx])
    have hlostm : ∀ i V, (i, V) ∈ lost ↔ i < j ∧ wd0 i = true ∧ V = W0 i ∧ ord bf i j = false := fun i V => by
      rw [← hlost, List.mem_filter, hws i V]
      simp only [Bool.not_eq_true', and_assoc]
    have hB : ∀ i < j, wd0 i = true → ord bf i j = false → ∀ x ∈ W0 i, x ∈ m := fun i hi hw ho x hx => hsub x (by
      rw [← hm1]
      simp only [List.mem_append, List.mem_flatMap, Prod.exists]
      exact .inr (.inl ⟨i, W0 i, (hlostm i _).2 ⟨hi, hw, rfl, ho⟩, hx⟩))
    have hP : ∀ i V, (i, V) ∈ pw → j < i → ord bf j i = false → ∀ x ∈ V, x ∈ m := fun i V hp hi ho x hx => hsub x (by
      rw [← hm1]
      simp only [List.mem_append]
      refine .inr (.inr ?_)
      unfold laterW
      rw [List.mem_flatMap]
      exact ⟨(i, V), List.mem_filter.2 ⟨hp, by simp [hi, ho]⟩, hx⟩)
    split at he
    · cases he
    · rename_i hchk
      simp only [Bool.and_eq_true, decide_eq_true_eq, List.all_eq_true, List.contains_iff_mem] at hchk
      have hC : ∀ x, x < s.length → x ∉ m → ∀ r ∈ roots (slot s x), r ∉ m := fun x hx hxm => by
        refine rootsIn_false.1 ?_
        cases hr : rootsIn m (slot s x) with
        | false => rfl
        | true =>
          have := hchk.2 _ (refs_spec s 0 x hr hx)
          rw [Nat.zero_add] at this
          exact absurd this hxm
      simp only [Option.bind_eq_some_iff] at he
      obtain ⟨b, hb, he⟩ := he
      have go : ∀ (Wj : List Nat) (wdj : Bool) (s1 : List T) (ws1 : List (Nat × List Nat)), s1.length = s.length →
          (∀ i V, (i, V) ∈ ws1 ↔ i < j + 1 ∧ (if i = j then wdj else wd0 i) = true ∧ V = (if i = j then Wj else W0 i)) → evD E all bf pw l (j + 1) ws1 (s :: hs) s1 = some s' →
          (∀ (st : Nat → List T) (W : Nat → List Nat) (wd : Nat → Bool), (∀ i < j, st i = st0 i ∧ W i = W0 i ∧ wd i = wd0 i) → W j = Wj → wd j = wdj → Fact E all bf pw st s s1 W wd j o) →
          ∃ (st : Nat → List T) (W : Nat → List Nat) (wd : Nat → Bool), (∀ i < j, st i = st0 i ∧ W i = W0 i ∧ wd i = wd0 i) ∧ st j = s ∧ st (j + (l.length + 1)) = s' ∧
            ∀ k o, j ≤ k → all[k]? = some o → Fact E all bf pw st (st k) (st (k + 1)) W wd k o := by
        intro Wj wdj s1 ws1 hl1 hws1 he1 hF
        obtain ⟨st, W, wd, h1, h2, h3, h4⟩ := evD_fact l (j + 1) ws1 (s :: hs) s1 s' (fun i => if i = j then s else st0 i) (fun i => if i = j then Wj else W0 i) (fun i => if i = j then wdj else wd0 i) hd' hws1 (fun i hi => by
          by_cases hij : i = j
          · rw [if_pos hij]; exact List.mem_cons_self
          · rw [if_neg hij]; exact List.mem_cons_of_mem _ (hhs i (by omega))) he1
        have hW : ∀ i < j, st i = st0 i ∧ W i = W0 i ∧ wd i = wd0 i := fun i hi => by
          have := h1 i (by omega)
          rw [if_neg (by omega), if_neg (by omega), if_neg (by omega)] at this
          exact this
        have hWj : st j = s ∧ W j = Wj ∧ wd j = wdj := by simpa using h1 j (by omega)
        refine ⟨st, W, wd, hW, hWj.1, ?_, fun k o' hk ho' => ?_⟩
        · rw [← h3]; congr 1; omega
        · rcases Nat.lt_or_ge j k with hk' | hk'
          · exact h4 k o' hk' ho'
          · have hkj : k = j := by omega
            subst hkj
            rw [hoj] at ho'; cases ho'
            rw [hWj.1, h2]
            exact hF st W wd hW hWj.2.1 hWj.2.2
      have hws0 : ∀ (Wj : List Nat) (wdj : Bool), wdj = false → ∀ i V, (i, V) ∈ ws ↔ i < j + 1 ∧ (if i = j then wdj else wd0 i) = true ∧ V = (if i = j then Wj else W0 i) := fun Wj wdj hwd i V => by
        rw [hws i V]
        by_cases hij : i = j
        · subst hij; simp [hwd]
        · simp only [if_neg hij]
          constructor
          · rintro ⟨h1, h2⟩; exact ⟨by omega, h2⟩
          · rintro ⟨h1, h2⟩; exact ⟨by omega, h2⟩
      split at he
      · simp only [Option.bind_eq_some_iff] at he
        obtain ⟨e, he1, he⟩ := he
        split at he
        · rename_i hnar
          unfold narrow at hnar
          rw [Option.any_eq_true] at hnar
          obtain ⟨d, hdst, hnar⟩ := hnar
          simp only [hdst, Option.bind_some] at he
          split at hnar
          · rename_i d' he2
            simp only [Bool.and_eq_true, beq_iff_eq, Bool.not_eq_true'] at hnar
            obtain ⟨rfl, howner⟩ := hnar
            split at he
            · rename_i hok
              simp only [Bool.and_eq_true, Bool.not_eq_true', List.any_eq_false, List.contains_eq_mem, decide_eq_false_iff_not] at hok
              refine go [d] false _ ws (by simp) (hws0 _ _ rfl) he fun st W wd hW hWj hwj => ⟨hchk.1, by simp, m, hA, ⟨?_, hP⟩, hC, .inl ⟨e, hb, he1, by rw [hWj, he2], fun x hx => ?_, ?_, ?_, .inr ⟨hwj, d, hdst, he2, howner, ?_⟩⟩⟩
              · intro i hi hw ho; rw [(hW i hi).2.1]; exact hB i hi (by rw [← (hW i hi).2.2]; exact hw) ho
              · rw [slot_set, he2]
                by_cases hxd : x = d
                · subst hxd; simp [hx]
                · simp [hxd]
              · intro x hx; rw [he2] at hx; simp only [List.mem_singleton] at hx; subst hx; exact hok.2
              · intro d' hd'; rw [hdst] at hd'; cases hd'; exact hok.2
              · intro i hi hw ho
                rw [(hW i hi).2.1]
                refine rootsIn_false.1 ?_
                have := hok.1 (i, W0 i) ((hlostm i _).2 ⟨hi, by rw [← (hW i hi).2.2]; exact hw, rfl, ho⟩)
                simpa using this
            · cases he
          · cases hnar
        · split at he
          · rename_i hok
            rw [Bool.and_eq_true, Bool.and_eq_true, Bool.and_eq_true] at hok
            obtain ⟨⟨⟨h1, h2⟩, h3⟩, h4⟩ := hok
            simp only [Bool.not_eq_true', List.any_eq_false, List.contains_eq_mem] at h2 h3 h4
            refine go e.2 true _ ((j, e.2) :: ws) (by simp [mixL_len]) (fun i V => ?_) he fun st W wd hW hWj hwj => ⟨hchk.1, by simp [mixL_len], m, hA, ⟨?_, hP⟩, hC, .inl ⟨e, hb, he1, hWj, fun x hx => ?_, ?_, ?_, .inl ⟨hwj, ?_, ?_⟩⟩⟩
            · simp only [List.mem_cons, Prod.mk.injEq, hws i V]
              by_cases hij : i = j
              · subst hij; simp
              · simp only [if_neg hij, hij, false_and, false_or]
                constructor
                · rintro ⟨h1, h2⟩; exact ⟨by omega, h2⟩
                · rintro ⟨h1, h2⟩; exact ⟨by omega, h2⟩
            · intro i hi hw ho; rw [(hW i hi).2.1]; exact hB i hi (by rw [← (hW i hi).2.2]; exact hw) ho
            · rw [mixL_slot _ _ _ _ _ hx, Nat.zero_add]
            · intro x hx; simpa using h2 x hx
            · intro d hd hm'
              have : (o.dst.any fun x => decide (x ∈ m)) = true := by rw [Option.any_eq_true]; exact ⟨d, hd, by simpa using hm'⟩
              rw [this] at h4; cases h4
            · unfold wideB at h1
              rw [Bool.or_eq_true, Bool.and_eq_true, Bool.and_eq_true] at h1
              rcases h1 with h1 | ⟨⟨h1, h5⟩, h6⟩
              · exact .inl (by simpa using h1)
              · refine .inr ⟨?_, fun i hi x hx => ?_, fun i hi hw ho x hx => ?_⟩
                · rw [List.any_eq_true] at h1
                  obtain ⟨⟨j', V⟩, hp, h1⟩ := h1
                  rw [Bool.and_eq_true] at h1
                  have hj : j' = j := by simpa using h1.1
                  subst hj
                  exact ⟨V, hp, by simpa using h1.2⟩
                · rw [(hW i hi).1]
                  refine rootsIn_false.1 ?_
                  have := (List.all_eq_true.1 h5) _ (hhs i hi)
                  simp only [Bool.not_eq_true', List.any_eq_false] at this
                  simpa using this x hx
                · rw [(hW i hi).2.1]
                  refine rootsIn_false.1 ?_
                  simp only [Bool.not_eq_true', List.any_eq_false] at h6
                  have := h6 (i, W0 i) ((hlostm i _).2 ⟨hi, by rw [← (hW i hi).2.2]; exact hw, rfl, ho⟩)
                  simp only [Bool.not_eq_true, List.any_eq_false] at this
                  simpa using this x hx
            · intro x hx
              refine rootsIn_false.1 ?_
              simpa using h3 x hx
          · cases he
      · split at he
        · rename_i d hdst
          split at he
          · rename_i hok
            simp only [Bool.or_eq_false_iff, List.contains_eq_mem, decide_eq_false_iff_not] at hok
            refine go [d] false _ ws (by simp) (hws0 _ _ rfl) he fun st W wd hW hWj hwj => ⟨hchk.1, by simp, m, hA, ⟨?_, hP⟩, hC, .inr ⟨hb, hwj, .inr ⟨d, hdst, hWj, hok.2, hok.1, rfl⟩⟩⟩
            intro i hi hw ho; rw [(hW i hi).2.1]; exact hB i hi (by rw [← (hW i hi).2.2]; exact hw) ho
          · cases he
        · rename_i hdst
          refine go [] false _ ws rfl (hws0 _ _ rfl) he fun st W wd hW hWj hwj => ⟨hchk.1, rfl, m, hA, ⟨?_, hP⟩, hC, .inr ⟨hb, hwj, .inl ⟨hdst, hWj, rfl⟩⟩⟩
          intro i hi hw ho; rw [(hW i hi).2.1]; exact hB i hi (by rw [← (hW i hi).2.2]; exact hw) ho
end Go.Os
set_option linter.unusedVariables false
namespace Go.Os
def lw (W : Nat → List Nat) (S : Nat → Bool) (x : Nat) : Nat → Nat
  | 0 => 0
  | k + 1 => match S k && (W k).contains x with | true => k + 1 | false => lw W S x k
theorem lw_spec (W : Nat → List Nat) (S : Nat → Bool) (x : Nat) : ∀ n, (lw W S x n = 0 ∧ ∀ j < n, S j = true → x ∉ W j) ∨
    ∃ k, lw W S x n = k + 1 ∧ k < n ∧ S k = true ∧ x ∈ W k ∧ ∀ j, k < j → j < n → S j = true → x ∉ W j
  | 0 => .inl ⟨rfl, by simp⟩
  | n + 1 => by
    unfold lw
    cases h : S n && (W n).contains x with
    | true =>
      simp only [Bool.and_eq_true, List.contains_iff_mem] at h
      exact .inr ⟨n, rfl, by omega, h.1, h.2, fun j h1 h2 => by omega⟩
    | false =>
      have hn : S n = true → x ∉ W n := fun hs hx => by
        rw [hs, show (W n).contains x = true by simpa using hx] at h; cases h
      rcases lw_spec W S x n with ⟨h1, h2⟩ | ⟨k, h1, h2, h3, h4, h5⟩
      · refine .inl ⟨h1, fun j hj hs => ?_⟩
        rcases Nat.lt_or_ge j n with hj' | hj'
        · exact h2 j hj' hs
        · have : j = n := by omega
          subst this; exact hn hs
      · refine .inr ⟨k, h1, by omega, h3, h4, fun j hj1 hj2 hs => ?_⟩
        rcases Nat.lt_or_ge j n with hj' | hj'
        · exact h5 j hj1 hj' hs
        · have : j = n := by omega
          subst this; exact hn hs
section
variable {P : Program} {E : Env} {all : List Oper} {bf : List Nat} {pw : List (Nat × List Nat)} {st : Nat → List T} {W : Nat → List Nat} {wd : Nat → Bool}
def stS (st : Nat → List T) (W : Nat → List Nat) (n N : Nat) (S : Nat → Bool) : List T := (List.range N).map fun x => slot (st (lw W S x n)) x
theorem stS_len (N n : Nat) (S : Nat → Bool) : (stS st W n N S).length = N := by simp [stS]
theorem stS_slot {N n : Nat} {S : Nat → Bool} {x : Nat} (hx : x < N) : slot (stS st W n N S) x = slot (st (lw W S x n)) x := by
  unfold stS
  simp only [slot]
  rw [List.getD_eq_getElem?_getD, List.getElem?_map, List.getElem?_range hx]
  rfl
structure Run (E : Env) (all : List Oper) (pw : List (Nat × List Nat)) (st : Nat → List T) (W : Nat → List Nat) (wd : Nat → Bool) (N : Nat) : Prop where
  len : (st 0).length = N
  fact : ∀ k o, all[k]? = some o → Fact E all (CheckFast.beforeL all 0 []) pw st (st k) (st (k + 1)) W wd k o
theorem Run.lenAll {N : Nat} (h : Run E all pw st W wd N) : ∀ k, k ≤ all.length → (st k).length = N
  | 0, _ => h.len
  | k + 1, hk => by
    have hk' : k < all.length := hk
    rw [(h.fact k all[k] (List.getElem?_eq_getElem hk')).2.1]
    exact h.lenAll k (by omega)
theorem Run.same {N : Nat} (h : Run E all pw st W wd N) {x : Nat} (hx : x < N) {a : Nat} : ∀ b, a ≤ b → b ≤ all.length → (∀ j, a ≤ j → j < b → x ∉ W j) → slot (st b) x = slot (st a) x := by
  intro b
  induction b with
  | zero => intro h1 _ _; rw [show a = 0 by omega]
  | succ b ih =>
    intro h1 h2 h3
    rcases Nat.lt_or_ge b a with hb | hb
    · rw [show a = b + 1 by omega]
    · rw [← ih hb (by omega) fun j hj1 hj2 => h3 j hj1 (by omega)]
      have hlt : b < all.length := by omega
      obtain ⟨_, hl, m, _, _, _, hc⟩ := h.fact b all[b] (List.getElem?_eq_getElem hlt)
      have hxb : x ∉ W b := h3 b hb (by omega)
      have hxl : x < (st b).length := by rw [h.lenAll b (by omega)]; exact hx
      rcases hc with ⟨e, _, _, hW, hs, _⟩ | ⟨_, _, ⟨_, _, hs⟩ | ⟨d, _, hW, _, _, hs⟩⟩
      · rw [hs x hxl, if_neg (by rw [← hW]; exact hxb)]
      · rw [hs]
      · rw [hs, slot_set, if_neg (by rw [hW] at hxb; simp only [List.mem_singleton] at hxb; exact fun h => hxb h.1)]
def Down (all : List Oper) (S : Nat → Bool) : Prop := ∀ j, j < all.length → S j = true → ∀ i, ((CheckFast.beforeL all 0 []).getD j 0).testBit i = true → S i = true
theorem bf_one {j : Nat} {o : Oper} (ho : all[j]? = some o) : (CheckFast.beforeL all 0 []).getD j 0 = CheckFast.one (fun i => if i < j then (CheckFast.beforeL all 0 []).getD i 0 else 0) o := by
  have := (beforeL_spec all [] j o ho).2
  simpa using this
theorem bit_lt {n i k : Nat} (h : n < 2 ^ k) (hb : n.testBit i = true) : i < k := by
  rcases Nat.lt_or_ge i k with h1 | h1
  · exact h1
  · rw [Nat.testBit_lt_two_pow (Nat.lt_of_lt_of_le h (Nat.pow_le_pow_right (by omega) h1))] at hb
    cases hb
theorem getD_true {S : Array Bool} {j : Nat} (h : S.getD j false = true) : j < S.size := by
  rcases Nat.lt_or_ge j S.size with h1 | h1
  · exact h1
  · simp [Array.getD, show ¬ j < S.size by omega] at h
theorem ready_before {N : Nat} (h : Run E all pw st W wd N) {S : Array Bool} (hS : Down all fun j => S.getD j false) {i : Nat} (hr : i ∈ Region.ready .any all.toArray S) {k : Nat}
    (hb : ((CheckFast.beforeL all 0 []).getD i 0).testBit k = true) : S.getD k false = true := by
  obtain ⟨_, o, ho, hedges⟩ := mem_ready.1 hr
  have ho' : all[i]? = some o := by simpa using ho
  have hlt := (h.fact i o ho').1
  rw [bf_one ho', one_bit] at hb
  obtain ⟨e, he, hbind, hk⟩ := hb
  have hon := hedges e (by simpa using he) hbind
  rcases hk with rfl | hk
  · exact hon
  · split at hk
    · rename_i hei
      exact hS e.on (by have := (List.getElem?_eq_some_iff.1 ho').1; omega) hon k hk
    · simp at hk
theorem ready_lt {S : Array Bool} {i : Nat} (hr : i ∈ Region.ready .any all.toArray S) : i < all.length ∧ ∃ o, all[i]? = some o := by
  obtain ⟨_, o, ho, _⟩ := mem_ready.1 hr
  have ho' : all[i]? = some o := by simpa using ho
  exact ⟨(List.getElem?_eq_some_iff.1 ho').1, o, ho'⟩
structure Cut (all : List Oper) (W : Nat → List Nat) (wd : Nat → Bool) (S : Nat → Bool) (i : Nat) (m : List Nat) : Prop where
  before : ∀ j < i, ∀ x ∈ W j, x ∉ m → S j = true
  behind : ∀ k, i < k → k < all.length → S k = true → ∀ x ∈ W k, x ∈ m
theorem ready_cut {N : Nat} (h : Run E all pw st W wd N) {S : Array Bool} (hS : Down all fun j => S.getD j false) {i : Nat} (hr : i ∈ Region.ready .any all.toArray S) {m : List Nat}
    (hd : ∀ x ∈ dsts (CheckFast.beforeL all 0 []) all i, x ∈ m) (hl : ∀ j < i, wd j = true → ord (CheckFast.beforeL all 0 []) j i = false → ∀ x ∈ W j, x ∈ m)
    (hp : ∀ k V, (k, V) ∈ pw → i < k → ord (CheckFast.beforeL all 0 []) i k = false → ∀ x ∈ V, x ∈ m) :
    Cut all W wd (fun j => S.getD j false) i m ∧ ∀ k, i < k → k < all.length → S.getD k false = true → ord (CheckFast.beforeL all 0 []) i k = false := by
  obtain ⟨hi, o, ho⟩ := ready_lt hr
  have hnot : S.getD i false = false := by
    have h0 := (mem_ready.1 hr).1
    rw [Array.getD_eq_getD_getElem?] at h0 ⊢
    cases hc : S[i]? with
    | none => rfl
    | some b => rw [hc] at h0; simpa using h0
  have narrow : ∀ j oj, all[j]? = some oj → wd j = false → ∀ x ∈ W j, oj.dst = some x := by
    intro j oj hoj hwd x hx
    obtain ⟨_, _, m', _, _, _, hc⟩ := h.fact j oj hoj
    rcases hc with ⟨e, _, _, hW, _, _, _, ⟨hw, _⟩ | ⟨_, d, hdst, he2, _⟩⟩ | ⟨_, _, ⟨_, hW, _⟩ | ⟨d, hdst, hW, _⟩⟩
    · rw [hw] at hwd; cases hwd
    · rw [hW, he2] at hx; simp only [List.mem_singleton] at hx; subst hx; exact hdst
    · rw [hW] at hx; simp at hx
    · rw [hW] at hx; simp only [List.mem_singleton] at hx; subst hx; exact hdst
  have hbehind : ∀ k, i < k → k < all.length → S.getD k false = true → ord (CheckFast.beforeL all 0 []) i k = false := by
    intro k hik hk hSk
    have hok := List.getElem?_eq_getElem hk
    cases hc : ord (CheckFast.beforeL all 0 []) i k with
    | false => rfl
    | true =>
      simp only [ord, Bool.or_eq_true] at hc
      rcases hc with hc | hc
      · have := hS k hk hSk i hc
        simp only at this
        rw [hnot] at this; cases this
      · have := bit_lt (h.fact i o ho).1 hc
        omega
  refine ⟨⟨fun j hj x hx hxm => ?_, fun k hik hk hSk x hx => ?_⟩, hbehind⟩
  · have hjl : j < all.length := by omega
    have hoj := List.getElem?_eq_getElem hjl
    cases ho' : ord (CheckFast.beforeL all 0 []) j i with
    | true =>
      simp only [ord, Bool.or_eq_true] at ho'
      rcases ho' with hb | hb
      · exact ready_before h hS hr hb
      · have := bit_lt (h.fact j _ hoj).1 hb; omega
    | false =>
      exfalso
      apply hxm
      cases hwj : wd j with
      | true => exact hl j hj hwj ho' x hx
      | false => exact hd x (mem_dsts.2 ⟨j, _, hoj, by omega, ho', narrow j _ hoj hwj x hx⟩)
  · have h1 := hbehind k hik hk hSk
    have hok := List.getElem?_eq_getElem hk
    cases h2 : wd k with
    | false =>
      refine hd x (mem_dsts.2 ⟨k, _, hok, by omega, ?_, narrow k _ hok h2 x hx⟩)
      simp only [ord] at h1 ⊢
      rw [Bool.or_comm]; exact h1
    | true =>
      obtain ⟨_, _, m', _, _, _, hc⟩ := h.fact k _ hok
      rcases hc with ⟨e, _, _, hW, _, _, _, ⟨_, ha | ⟨⟨V, hV, hsub⟩, _⟩, _⟩ | ⟨hw, _⟩⟩ | ⟨_, hw, _⟩
      · rw [ha i hik] at h1; cases h1
      · exact hp k V hV hik h1 x (hsub x (by rw [← hW]; exact hx))
      · rw [hw] at h2; cases h2
      · rw [hw] at h2; cases h2
theorem Cut.agree {N : Nat} (h : Run E all pw st W wd N) {S : Nat → Bool} {i : Nat} {m : List Nat} (hc : Cut all W wd S i m) (hi : i < all.length) (hSi : S i = false) {x : Nat} (hx : x < N) (hxm : x ∉ m) :
    slot (stS st W all.length N S) x = slot (st i) x := by
  rw [stS_slot hx]
  rcases lw_spec W S x all.length with ⟨h1, h2⟩ | ⟨k, h1, h2, h3, h4, h5⟩
  · rw [h1]
    refine (h.same hx i (by omega) (by omega) fun j _ hj hxj => ?_).symm
    exact h2 j (by omega) (hc.before j hj x hxj hxm) hxj
  · rw [h1]
    have hki : k < i := by
      rcases Nat.lt_trichotomy k i with h | h | h
      · exact h
      · subst h; rw [hSi] at h3; cases h3
      · exact absurd (hc.behind k h h2 h3 x h4) hxm
    refine (h.same hx i (by omega) (by omega) fun j hj1 hj2 hxj => ?_).symm
    exact h5 j (by omega) (by omega) (hc.before j hj2 x hxj hxm) hxj
theorem lw_in {S : Nat → Bool} {i x n : Nat} (hi : i < n) (hx : x ∈ W i) (hb : ∀ k, i < k → k < n → S k = true → x ∉ W k) : lw W (fun j => S j || j == i) x n = i + 1 := by
  rcases lw_spec W (fun j => S j || j == i) x n with ⟨h1, h2⟩ | ⟨k, h1, h2, h3, h4, h5⟩
  · exact absurd hx (h2 i hi (by simp))
  · rcases Nat.lt_trichotomy k i with h | h | h
    · exact absurd hx (h5 i h hi (by simp))
    · subst h; exact h1
    · simp only [Bool.or_eq_true, beq_iff_eq] at h3
      rcases h3 with h3 | h3
      · exact absurd h4 (hb k h h2 h3)
      · omega
theorem lw_out {S : Nat → Bool} {i x : Nat} (hx : x ∉ W i) : ∀ n, lw W (fun j => S j || j == i) x n = lw W S x n
  | 0 => rfl
  | n + 1 => by
    unfold lw
    by_cases hn : n = i
    · subst hn
      rw [show (W n).contains x = false by simpa using hx]
      simp only [Bool.and_false]
      exact lw_out hx n
    · rw [show (n == i) = false by simpa using hn, Bool.or_false, lw_out hx n]
end
section
variable {P : Program} {w w' : World} {RO RO' : Nat → Prop} {Ls : List Ly} {a : Act} {s : List T} {tm : Array Value}
def keepLs (m : List Nat) (Ls : List Ly) : List Ly := (List.range Ls.length).map fun x => if x ∈ m then .no else Ls.getD x .no
theorem keepLs_getD (m : List Nat) (Ls : List Ly) (x : Nat) : (keepLs m Ls).getD x .no = if x ∈ m then .no else Ls.getD x .no := by
  unfold keepLs
  rcases Nat.lt_or_ge x Ls.length with hx | hx
  · rw [List.getD_eq_getElem?_getD, List.getElem?_map, List.getElem?_range hx]; rfl
  · rw [List.getD_eq_getElem?_getD, List.getElem?_eq_none (by simpa using hx), List.getD_eq_getElem?_getD, List.getElem?_eq_none hx]
    simp
theorem nodup_sub {Ls Ms : List Ly} (h : (Ly.bsL Ls).Nodup) (hs : ∀ r, (Ms.getD r .no).bs = (Ls.getD r .no).bs ∨ (Ms.getD r .no).bs = []) : (Ly.bsL Ms).Nodup := by
  rw [nodup_iff]
  refine ⟨fun j M hj => ?_, fun j k M N hj hk hne x hx hy => ?_⟩
  · have := hs j
    rw [getD_some hj] at this
    rcases this with h1 | h1
    · rw [h1]; exact getD_nodup h j
    · rw [h1]; exact List.nodup_nil
  · have h1 := hs j
    have h2 := hs k
    rw [getD_some hj] at h1
    rw [getD_some hk] at h2
    rcases h1 with h1 | h1
    · rcases h2 with h2 | h2
      · rw [h1] at hx; rw [h2] at hy
        exact hne (getD_disj h hx hy)
      · rw [h2] at hy; simp at hy
    · rw [h1] at hx; simp at hx
theorem getD_get {Ls : List Ly} {r : Nat} (hr : r < Ls.length) : Ls[r]? = some (Ls.getD r .no) := by
  rw [List.getD_eq_getElem?_getD, List.getElem?_eq_getElem hr]; rfl
theorem rel_mask (h : Rel w RO Ls s tm) (m : List Nat) (hm : ∀ x, x < s.length → x ∉ m → ∀ r ∈ roots (slot s x), r ∉ m) : Rel w RO (keepLs m Ls) (keepL (fun x => !m.contains x) 0 s) tm := by
  have hbs : ∀ r, ((keepLs m Ls).getD r .no).bs = (Ls.getD r .no).bs ∨ ((keepLs m Ls).getD r .no).bs = [] := fun r => by
    rw [keepLs_getD]
    split
    · exact .inr rfl
    · exact .inl rfl
  have hsub : ∀ g ∈ Ly.bsL (keepLs m Ls), g ∈ Ly.bsL Ls := fun g hg => by
    obtain ⟨r, hr⟩ := mem_getD hg
    rcases hbs r with h1 | h1
    · rw [h1] at hr; exact getD_mem hr
    · rw [h1] at hr; simp at hr
  refine ⟨by rw [keepL_len]; exact h.len, by rw [keepL_len, ← h.lenL]; simp [keepLs], fun j => ?_, nodup_sub h.nodup hbs, fun g hg => h.own g (hsub g hg), h.ro⟩
  rw [keepL_slot, keepLs_getD, Nat.zero_add]
  by_cases hj : j ∈ m
  · rw [if_neg (by simp [hj]), if_pos hj]; rfl
  · rw [if_pos (by simp [hj]), if_neg hj]
    by_cases hlt : j < s.length
    · refine TV_frame (Ls' := keepLs m Ls) (fun _ _ => rfl) (fun _ h => h) (fun _ _ => rfl) (fun r hr L0 h0 hb => ?_) (h.slot j)
      have hrm := hm j hlt hj r hr
      have hrl := (List.getElem?_eq_some_iff.1 h0).1
      rw [getD_get (by simpa [keepLs] using hrl), keepLs_getD, if_neg hrm]
      simp [List.getD_eq_getElem?_getD, h0]
    · have := h.slot j
      rw [slot_ge (by omega)] at this ⊢
      exact this
theorem rel_unmask {s1 sn : List T} {W : List Nat} {tm' : Array Value} {Ls' : List Ly} {m : List Nat} (h : Rel w RO Ls s tm) (h1 : Rel w' RO' Ls' s1 tm') (hX : Ext w RO (keepLs m Ls) W w' RO' Ls')
    (hlen : s1.length = s.length) (hWm : ∀ x ∈ W, x ∉ m) (hmask : ∀ x ∈ m, ∀ r ∈ roots (slot s x), r ∈ W → (Ls.getD r .no).bar = true) (htm : ∀ x ∈ m, tm'.getD x undef = tm.getD x undef)
    (hln : sn.length = s.length) (hin : ∀ x, x ∉ m → slot sn x = slot s1 x) (hout : ∀ x ∈ m, slot sn x = slot s x) :
    ∃ Ln, Rel w' RO' Ln sn tm' ∧ ExtA w RO Ls w' RO' Ln := by
  let Ln : List Ly := (List.range Ls.length).map fun x => if x ∈ m then Ls.getD x .no else Ls'.getD x .no
  have hLl : Ls'.length = Ls.length := by rw [h1.lenL, h.lenL, hlen]
  have hLn : ∀ x, Ln.getD x .no = if x ∈ m then Ls.getD x .no else Ls'.getD x .no := fun x => by
    rcases Nat.lt_or_ge x Ls.length with hx | hx
    · simp only [Ln]
      rw [List.getD_eq_getElem?_getD, List.getElem?_map, List.getElem?_range hx]; rfl
    · simp only [Ln]
      rw [List.getD_eq_getElem?_getD, List.getElem?_eq_none (by simpa using hx), List.getD_eq_getElem?_getD, List.getElem?_eq_none hx, List.getD_eq_getElem?_getD, List.getElem?_eq_none (by omega)]
      simp
  have hLnl : Ln.length = Ls.length := by simp [Ln]
  have hsub : ∀ g ∈ Ly.bsL (keepLs m Ls), ∃ r, r ∉ m ∧ g ∈ (Ls.getD r .no).bs := fun g hg => by
    obtain ⟨r, hr⟩ := mem_getD hg
    rw [keepLs_getD] at hr
    split at hr
    · simp [Ly.bs] at hr
    · rename_i hrm; exact ⟨r, hrm, hr⟩
  have hheap : ∀ g, g < w.heap.size → (∀ r ∈ W, g ∉ (Ls.getD r .no).bs) → w'.heap[g]? = w.heap[g]? := fun g hg hr => hX.blk g hg fun r hrW hm' => by
    rw [keepLs_getD, if_neg (hWm r hrW)] at hm'
    exact hr r hrW hm'
  have hROsame : ∀ g, RO g → w'.heap[g]? = w.heap[g]? := fun g hg => hheap g (h.ro g hg) fun r _ hm' => (h.own g (getD_mem hm')).2 hg
  have hmg : ∀ x ∈ m, ∀ g ∈ (Ls.getD x .no).bs, ∀ y, y ∉ m → g ∉ (Ls'.getD y .no).bs := fun x hx g hg y hy hm' => by
    rcases hX.own g (getD_mem hm') with ho | ho
    · obtain ⟨r, hr1, hr2⟩ := hsub g ho
      exact hr1 (getD_disj h.nodup hg hr2 ▸ hx)
    · have := (h.own g (getD_mem hg)).1; omega
  refine ⟨Ln, ⟨by rw [hln, ← hlen]; exact h1.len, by rw [hLnl, hln, h.lenL], fun x => ?_, ?_, fun g hg => ?_, h1.ro⟩, ⟨hX.os, hX.tape, hX.output, hX.size, fun k hk hn => hheap k hk fun r _ hm' => hn (getD_mem hm'), hX.ro, fun g hg => ?_, fun g hg => ?_⟩⟩
  · rw [hLn]
    by_cases hx : x ∈ m
    · rw [if_pos hx, hout x hx, htm x hx]
      refine TV_frame (Ls' := Ln) hROsame hX.ro (fun g hg => hheap g (h.own g (getD_mem hg)).1 fun r hr hm' => ?_) (fun r hr L0 h0 hb => ?_) (h.slot x)
      · exact hWm r hr (getD_disj h.nodup hg hm' ▸ hx)
      · have hrl := (List.getElem?_eq_some_iff.1 h0).1
        rw [getD_get (by rw [hLnl]; exact hrl), hLn]
        have hL0 : Ls.getD r .no = L0 := getD_some h0
        by_cases hrm : r ∈ m
        · rw [if_pos hrm, hL0]
        · rw [if_neg hrm]
          have hrW : r ∉ W := fun hrW => by
            have := hmask x hx r hr hrW
            rw [hL0, hb] at this; cases this
          rw [hX.ly r hrW, keepLs_getD, if_neg hrm, hL0]
    · rw [if_neg hx, hin x hx]
      refine TV_frame (Ls' := Ln) (fun _ _ => rfl) (fun _ h => h) (fun _ _ => rfl) (fun r hr L0 h0 hb => ?_) (h1.slot x)
      have hrl := (List.getElem?_eq_some_iff.1 h0).1
      rw [getD_get (by rw [hLnl, ← hLl]; exact hrl), hLn]
      have hL0 : Ls'.getD r .no = L0 := getD_some h0
      by_cases hrm : r ∈ m
      · exfalso
        have hrW : r ∉ W := fun hrW => hWm r hrW hrm
        rw [hX.ly r hrW, keepLs_getD, if_pos hrm] at hL0
        subst hL0
        simp [Ly.bar] at hb
      · rw [if_neg hrm, hL0]
  · rw [nodup_iff]
    refine ⟨fun j M hj => ?_, fun j k M N hj hk hne x hx hy => ?_⟩
    · have hM := getD_some (d := Ly.no) hj
      rw [hLn] at hM
      rw [← hM]
      split
      · exact getD_nodup h.nodup j
      · exact getD_nodup h1.nodup j
    · have hM := getD_some (d := Ly.no) hj
      have hN := getD_some (d := Ly.no) hk
      rw [hLn] at hM hN
      by_cases hjm : j ∈ m
      · rw [if_pos hjm] at hM
        by_cases hkm : k ∈ m
        · rw [if_pos hkm] at hN
          rw [← hM] at hx; rw [← hN] at hy
          exact hne (getD_disj h.nodup hx hy)
        · rw [if_neg hkm] at hN
          rw [← hM] at hx; rw [← hN] at hy
          exact hmg j hjm x hx k hkm hy
      · rw [if_neg hjm] at hM
        by_cases hkm : k ∈ m
        · rw [if_pos hkm] at hN
          rw [← hM] at hx; rw [← hN] at hy
          exact hmg k hkm x hy j hjm hx
        · rw [if_neg hkm] at hN
          rw [← hM] at hx; rw [← hN] at hy
          exact hne (getD_disj h1.nodup hx hy)
  · obtain ⟨r, hr⟩ := mem_getD hg
    rw [hLn] at hr
    by_cases hrm : r ∈ m
    · rw [if_pos hrm] at hr
      have h0 := h.own g (getD_mem hr)
      refine ⟨Nat.lt_of_lt_of_le h0.1 hX.size, fun hro => ?_⟩
      rcases hX.ro' g hro with hro | hro | hro
      · exact h0.2 hro
      · obtain ⟨z, hz1, hz2⟩ := hsub g hro
        exact hz1 (getD_disj h.nodup hr hz2 ▸ hrm)
      · omega
    · rw [if_neg hrm] at hr
      exact h1.own g (getD_mem hr)
  · rcases hX.ro' g hg with h2 | h2 | h2
    · exact .inl h2
    · obtain ⟨z, _, hz⟩ := hsub g h2; exact .inr (.inl (getD_mem hz))
    · exact .inr (.inr h2)
  · obtain ⟨r, hr⟩ := mem_getD hg
    rw [hLn] at hr
    by_cases hrm : r ∈ m
    · rw [if_pos hrm] at hr; exact .inl (getD_mem hr)
    · rw [if_neg hrm] at hr
      rcases hX.own g (getD_mem hr) with h2 | h2
      · obtain ⟨z, _, hz⟩ := hsub g h2; exact .inl (getD_mem hz)
      · exact .inr h2
end
end Go.Os
set_option linter.unusedVariables false
namespace Go.Os
section
variable {P : Program} {w : World} {RO : Nat → Prop} {Ls : List Ly} {a : Act} {s : List T}
variable {E : Env} {all : List Oper} {pw : List (Nat × List Nat)} {st : Nat → List T} {W : Nat → List Nat} {wd : Nat → Bool}
def cntF (S : Array Bool) : Nat := (S.toList.filter (!·)).length
theorem cnt_set : ∀ (l : List Bool) (i : Nat), l[i]? = some false → ((l.set i true).filter (!·)).length + 1 = (l.filter (!·)).length
  | [], i, h => by simp at h
  | b :: l, i, h => by
    cases i with
    | zero => simp at h; subst h; simp
    | succ i =>
      have := cnt_set l i (by simpa using h)
      cases b <;> simp [List.filter_cons] <;> omega
theorem cnt_zero {S : Array Bool} (h : cntF S = 0) {i : Nat} {b : Bool} (hi : S[i]? = some b) : b = true := by
  unfold cntF at h
  have h1 := List.eq_nil_of_length_eq_zero h
  rw [List.filter_eq_nil_iff] at h1
  have h2 : b ∈ S.toList := by
    rw [← Array.getElem?_toList] at hi
    exact List.mem_of_getElem? hi
  simpa using h1 b h2
theorem put_size (a : Act) (d : Option Nat) (v : Value) : (a.put d v).tmps.size = a.tmps.size := by cases d <;> simp [Act.put]
theorem ready_none {N : Nat} (h : Run E all pw st W wd N) {S : Array Bool} (hsz : S.size = all.length) (hr : Region.ready .any all.toArray S = []) : ∀ j, j < all.length → S.getD j false = true := by
  intro j
  induction j using Nat.strongRecOn with
  | _ j ih =>
    intro hj
    have hoj := List.getElem?_eq_getElem hj
    cases hS : S.getD j false with
    | true => rfl
    | false =>
      exfalso
      have : j ∈ Region.ready .any all.toArray S := by
        refine mem_ready.2 ⟨?_, all[j], by simp, fun e he hb => ?_⟩
        · rw [Array.getD_eq_getD_getElem?] at hS ⊢
          rw [Array.getElem?_eq_getElem (by omega)] at hS ⊢
          simpa using hS
        · have hbit : ((CheckFast.beforeL all 0 []).getD j 0).testBit e.on = true := by
            rw [bf_one hoj, one_bit]
            exact ⟨e, by simpa using he, hb, .inl rfl⟩
          have := bit_lt (h.fact j _ hoj).1 hbit
          exact ih e.on this (by omega)
      rw [hr] at this; simp at this
theorem stS_all {N : Nat} (h : Run E all pw st W wd N) {S : Nat → Bool} (hS : ∀ j, j < all.length → S j = true) : stS st W all.length N S = st all.length := by
  refine slots_ext (by rw [stS_len, h.lenAll _ (Nat.le_refl _)]) fun x hx => ?_
  rw [stS_len] at hx
  rw [stS_slot hx]
  rcases lw_spec W S x all.length with ⟨h1, h2⟩ | ⟨k, h1, h2, h3, h4, h5⟩
  · rw [h1]; exact (h.same hx all.length (by omega) (Nat.le_refl _) fun j _ hj => h2 j hj (hS j hj)).symm
  · rw [h1]; exact (h.same hx all.length (by omega) (Nat.le_refl _) fun j hj1 hj => h5 j (by omega) hj (hS j hj)).symm
theorem getD_setB {S : Array Bool} {i : Nat} (hi : i < S.size) : (fun j => (S.setIfInBounds i true).getD j false) = fun j => S.getD j false || j == i := by
  funext j
  by_cases e : j = i
  · subst e
    rw [Array.getD_eq_getD_getElem?, Array.getElem?_setIfInBounds_self_of_lt hi]; simp
  · rw [Array.getD_eq_getD_getElem?, Array.getElem?_setIfInBounds_ne (fun h => e h.symm), ← Array.getD_eq_getD_getElem?]
    simp [e]
theorem slot_getD_ge {s : List T} {x : Nat} (h : s.length ≤ x) : slot s x = .u := slot_ge h
theorem evD_any (hE : E.A = re) (hti : E.ti = tiOf P) (hcall : CallOK P E.call) {N : Nat} (h : Run E all pw st W wd N) {D : Nat → Prop} (hDst : ∀ o ∈ all, ∀ d, o.dst = some d → ¬ D d) {Q : Exit → Act → World → Prop} : ∀ (fuel : Nat) (S : Array Bool) (a : Act) (w : World) (RO : Nat → Prop) (Ls : List Ly),
    S.size = all.length → Down all (fun j => S.getD j false) → cntF S = fuel → Rel w RO Ls (stS st W all.length N fun j => S.getD j false) a.tmps →
    (∀ a' w' RO' Ls', Rel w' RO' Ls' (st all.length) a'.tmps → Stay D a a' → ExtA w RO Ls w' RO' Ls' → Q .normal a' w') → wpAny P .any all.toArray Q fuel S a w := by
  intro fuel
  induction fuel with
  | zero =>
    intro S a w RO Ls hsz hD hc hR hQ
    have hall : ∀ j, j < all.length → S.getD j false = true := fun j hj => by
      rw [Array.getD_eq_getD_getElem?, Array.getElem?_eq_getElem (by omega)]
      exact cnt_zero hc (Array.getElem?_eq_getElem (by omega))
    refine ⟨?_, hQ a w RO Ls (by rw [← stS_all h hall]; exact hR) (Stay.refl _ _) (ExtA.refl _ _ _)⟩
    cases hr : Region.ready .any all.toArray S with
    | nil => rfl
    | cons i l =>
      have hi : i ∈ Region.ready .any all.toArray S := by rw [hr]; simp
      have h1 := (mem_ready.1 hi).1
      have h2 := hall i (ready_lt hi).1
      have hlt := getD_true h2
      rw [Array.getD_eq_getD_getElem?, Array.getElem?_eq_getElem hlt] at h1 h2
      simp at h1 h2
      rw [h1] at h2; cases h2
  | succ fuel ih =>
    intro S a w RO Ls hsz hD hc hR hQ
    refine ⟨fun hr => ?_, fun i hi => ?_⟩
    · have hall := ready_none h hsz hr
      exact hQ a w RO Ls (by rw [← stS_all h hall]; exact hR) (Stay.refl _ _) (ExtA.refl _ _ _)
    · obtain ⟨hlt, o, ho⟩ := ready_lt hi
      have hiS : i < S.size := by omega
      have hSi : S.getD i false = false := by
        have h1 := (mem_ready.1 hi).1
        rw [Array.getD_eq_getD_getElem?, Array.getElem?_eq_getElem hiS] at h1 ⊢
        simpa using h1
      obtain ⟨hbf, hl1, m, hdm, ⟨hlm, hpm⟩, hcm, hcase⟩ := h.fact i o ho
      have hN : (st i).length = N := h.lenAll i (by omega)
      have hN1 : (st (i + 1)).length = N := h.lenAll (i + 1) (by omega)
      obtain ⟨hcut, hbeh⟩ := ready_cut h hD hi hdm hlm hpm
      have hagree : ∀ x, x < N → x ∉ m → slot (stS st W all.length N fun j => S.getD j false) x = slot (st i) x := fun x hx hxm => hcut.agree h hlt hSi hx hxm
      generalize hs : stS st W all.length N (fun j => S.getD j false) = s at hR hagree
      have hsN : s.length = N := by rw [← hs, stS_len]
      have hmask : keepL (fun x => !m.contains x) 0 s = keepL (fun x => !m.contains x) 0 (st i) := by
        refine slots_ext (by rw [keepL_len, keepL_len, hsN, hN]) fun x hx => ?_
        rw [keepL_len, hsN] at hx
        rw [keepL_slot, keepL_slot]
        by_cases hxm : x ∈ m
        · rw [if_neg (by simp [hxm]), if_neg (by simp [hxm])]
        · rw [if_pos (by simp [hxm]), if_pos (by simp [hxm]), hagree x hx hxm]
      have hRm := rel_mask hR m fun x hx hxm => by
        rw [hsN] at hx
        rw [hagree x hx hxm]
        exact hcm x (by rw [hN]; exact hx) hxm
      rw [hmask] at hRm
      have hS' := getD_setB hiS
      have hD' : Down all fun j => (S.setIfInBounds i true).getD j false := by
        rw [hS']
        intro j hj hjS k hk
        simp only [Bool.or_eq_true, beq_iff_eq] at hjS ⊢
        rcases hjS with hjS | hjS
        · exact .inl (hD j hj hjS k hk)
        · subst hjS; exact .inl (ready_before h hD hi hk)
      have hc' : cntF (S.setIfInBounds i true) = fuel := by
        have := cnt_set S.toList i (by rw [Array.getElem?_toList, Array.getElem?_eq_getElem hiS]; have h1 := hSi; rw [Array.getD_eq_getD_getElem?, Array.getElem?_eq_getElem hiS] at h1; simpa using h1)
        unfold cntF at hc ⊢
        rw [Array.toList_setIfInBounds]
        omega
      have next : ∀ (a' : Act) (w' : World) (RO' : Nat → Prop) (Ls' : List Ly), Rel w' RO' Ls' (stS st W all.length N fun j => S.getD j false || j == i) a'.tmps → Stay D a a' → ExtA w RO Ls w' RO' Ls' →
          wpAny P .any all.toArray Q fuel (S.setIfInBounds i true) a' w' := by
        intro a' w' RO' Ls' h1 h2 h3
        refine ih _ a' w' RO' Ls' (by simpa using hsz) hD' hc' (by rw [hS']; exact h1) fun a2 w2 RO2 Ls2 h4 h5 h6 => hQ a2 w2 RO2 Ls2 h4 (h2.trans h5) (h3.trans h6)
      have hin0 : ∀ x, x < N → x ∈ W i → x ∉ m → slot (stS st W all.length N fun j => S.getD j false || j == i) x = slot (st (i + 1)) x := fun x hx hxW hxm => by
        rw [stS_slot hx, lw_in hlt hxW fun k hk1 hk2 hk3 hxk => hxm (hcut.behind k hk1 hk2 hk3 x hxk)]
      have hout0 : ∀ x, x < N → x ∉ W i → slot (stS st W all.length N fun j => S.getD j false || j == i) x = slot s x := fun x hx hxW => by
        rw [stS_slot hx, lw_out hxW, ← hs, stS_slot hx]
      unfold wpOp
      simp only [List.getElem?_toArray, ho]
      rcases hcase with ⟨e, hwant, hev, hW, hsl, hWm, hdstm, hkind⟩ | ⟨hwant, hwd, hkind⟩
      · have hww := wants_ok hE hRm hwant
        rw [if_pos hww]
        refine .inl ((evOp_ok hE hti hcall hRm hev).put fun v w' RO' Ls' hR' hX' => ?_)
        have hlen : e.1.length = s.length := by rw [← hR'.len, put_size, hR.len]
        have hbar : ∀ x ∈ m, ∀ r ∈ roots (slot s x), r ∈ e.2 → (Ls.getD r .no).bar = true := by
          intro x hxm r hr hrW
          rcases hkind with ⟨hwd, hord, hroots⟩ | ⟨hwd, d, hdst, he2, how, hlost⟩
          · exfalso
            rcases Nat.lt_or_ge x N with hx | hx
            · -- a value that an operation behind left
              have late : ∀ k, i < k → k < all.length → S.getD k false = true → x ∈ W k → r ∈ roots (slot (st (k + 1)) x) → False := by
                intro k hki h2 h3 h4 hr
                have g1 := hbeh k hki h2 h3
                obtain ⟨_, _, mk, _, _, _, hck⟩ := h.fact k _ (List.getElem?_eq_getElem h2)
                have hlk : (st k).length = N := h.lenAll k (by omega)
                rcases hck with ⟨ek, _, _, hWk, hslk, _, _, ⟨hwk, ha | ⟨_, _, hlostk⟩, _⟩ | ⟨_, dk, _, he2k, _, hlostk⟩⟩ | ⟨_, _, ⟨_, hWk, _⟩ | ⟨dk, _, hWk, _, _, hsk⟩⟩
                · rw [ha i hki] at g1; cases g1
                · rw [hslk x (by rw [hlk]; exact hx), if_pos (by rw [← hWk]; exact h4)] at hr
                  exact hlostk i hki hwd g1 x (by rw [← hWk]; exact h4) r hr (by rw [hW]; exact hrW)
                · rw [hWk, he2k] at h4
                  simp only [List.mem_singleton] at h4
                  subst h4
                  rw [hslk x (by rw [hlk]; exact hx), if_pos (by rw [he2k]; simp)] at hr
                  exact hlostk i hki hwd g1 r hr (by rw [hW]; exact hrW)
                · rw [hWk] at h4; simp at h4
                · rw [hWk] at h4
                  simp only [List.mem_singleton] at h4
                  subst h4
                  rw [hsk, slot_set, if_pos ⟨rfl, by rw [hlk]; exact hx⟩] at hr
                  simp [roots, rootsL] at hr
              rw [← hs, stS_slot hx] at hr
              rcases hord with hord | ⟨_, hpast, _⟩
              · have hSb : ∀ j, j < i → S.getD j false = true := fun j hj => by
                  have := hord j hj
                  simp only [ord, Bool.or_eq_true] at this
                  rcases this with hb | hb
                  · exact ready_before h hD hi hb
                  · have := bit_lt (h.fact j _ (List.getElem?_eq_getElem (show j < all.length by omega))).1 hb
                    omega
                rcases lw_spec W (fun j => S.getD j false) x all.length with ⟨h1, h2⟩ | ⟨k, h1, h2, h3, h4, h5⟩
                · rw [h1, ← h.same hx i (by omega) (by omega) fun j _ hj => h2 j (by omega) (hSb j hj)] at hr
                  exact hroots x hxm r hr hrW
                · rw [h1] at hr
                  rcases Nat.lt_trichotomy k i with hki | hki | hki
                  · rw [← h.same hx i (by omega) (by omega) fun j hj1 hj => h5 j (by omega) (by omega) (hSb j hj)] at hr
                    exact hroots x hxm r hr hrW
                  · subst hki; rw [hSi] at h3; cases h3
                  · exact late k hki h2 h3 h4 hr
              · have past : ∀ k, k ≤ i → r ∈ roots (slot (st k) x) → False := fun k hk hr => by
                  rcases Nat.lt_or_ge k i with hk' | hk'
                  · exact hpast k hk' x hxm r hr hrW
                  · rw [show k = i by omega] at hr
                    exact hroots x hxm r hr hrW
                rcases lw_spec W (fun j => S.getD j false) x all.length with ⟨h1, h2⟩ | ⟨k, h1, h2, h3, h4, h5⟩
                · rw [h1] at hr; exact past 0 (Nat.zero_le _) hr
                · rw [h1] at hr
                  rcases Nat.lt_trichotomy k i with hki | hki | hki
                  · exact past (k + 1) (by omega) hr
                  · subst hki; rw [hSi] at h3; cases h3
                  · exact late k hki h2 h3 h4 hr
            · rw [slot_ge (by rw [hsN]; exact hx)] at hr
              simp [roots] at hr
          · rw [he2] at hrW
            simp only [List.mem_singleton] at hrW
            subst hrW
            have hrm : r ∉ m := hWm r (by rw [he2]; simp)
            have : owner (slot s r) = false := by
              rcases Nat.lt_or_ge r N with hx | hx
              · rw [hagree r hx hrm]; exact how
              · rw [slot_ge (by rw [hsN]; exact hx)]; rfl
            exact owner_bar this (hR.slot r)
        have hA : ∀ x, x ∉ m → slot (stS st W all.length N fun j => S.getD j false || j == i) x = slot e.1 x := fun x hxm => by
          rcases Nat.lt_or_ge x N with hx | hx
          · by_cases hxW : x ∈ W i
            · rw [hin0 x hx hxW hxm, hsl x (by rw [hN]; exact hx), if_pos (by rw [← hW]; exact hxW)]
            · rw [hout0 x hx hxW, hagree x hx hxm, evOp_pur hev x (by rw [← hW]; exact hxW), keepL_slot, if_pos (by simp [hxm])]
          · rw [slot_ge (by rw [stS_len]; exact hx), slot_ge (by rw [hlen, hsN]; exact hx)]
        have hB : ∀ x ∈ m, slot (stS st W all.length N fun j => S.getD j false || j == i) x = slot s x := fun x hxm => by
          rcases Nat.lt_or_ge x N with hx | hx
          · exact hout0 x hx fun hxW => hWm x (by rw [← hW]; exact hxW) hxm
          · rw [slot_ge (by rw [stS_len]; exact hx), slot_ge (by rw [hsN]; exact hx)]
        obtain ⟨Ln, hRn, hXn⟩ := rel_unmask (sn := stS st W all.length N fun j => S.getD j false || j == i) hR hR' hX' hlen hWm hbar
          (fun x hxm => put_other a o.dst v fun y hy e => hdstm y hy (e ▸ hxm)) (by rw [stS_len, hsN]) hA hB
        exact next _ w' RO' Ln hRn (Stay.put (hDst o (List.mem_of_getElem? ho)) v) hXn
      · have hww := wants_ok hE hRm hwant
        rw [if_neg (by rw [hww]; simp)]
        rcases hkind with ⟨hdst, hW, hsi⟩ | ⟨d, hdst, hW, hdm', how, hsi⟩
        · rw [hdst]
          refine next (a.put none undef) w RO Ls ?_ (Stay.refl _ _) (ExtA.refl _ _ _)
          have : stS st W all.length N (fun j => S.getD j false || j == i) = s := slots_ext (by rw [stS_len, hsN]) fun x hx => by
            rw [stS_len] at hx
            exact hout0 x hx (by rw [hW]; simp)
          rw [this]; exact hR
        · rw [hdst]
          obtain ⟨Ls', h1, h2⟩ := put_undef_ok hR (some d)
          refine next (a.put (some d) undef) w RO Ls' ?_ (hdst ▸ Stay.put (hDst o (List.mem_of_getElem? ho)) undef) h2.all
          have how' : owner (slot s d) = false := by
            rcases Nat.lt_or_ge d N with hx | hx
            · rw [hagree d hx hdm']; exact how
            · rw [slot_ge (by rw [hsN]; exact hx)]; rfl
          have : (putD s (some d) (.tp true [])).1 = stS st W all.length N (fun j => S.getD j false || j == i) := by
            have he : (putD s (some d) (.tp true [])).1 = s.set d (.tp true []) := by
              unfold putD setD
              simp only [how']
            rw [he]
            refine slots_ext (by simp [stS_len, hsN]) fun x hx => ?_
            simp only [List.length_set, hsN] at hx
            rw [slot_set]
            by_cases hxd : x = d
            · subst hxd
              rw [if_pos ⟨rfl, by rw [hsN]; exact hx⟩, hin0 x hx (by rw [hW]; simp) hdm', hsi, slot_set, if_pos ⟨rfl, by rw [hN]; exact hx⟩]
            · rw [if_neg (fun e => hxd e.1), hout0 x hx (by rw [hW]; simpa using hxd)]
          rw [← this]; exact h1
theorem evD_ok (hE : E.A = re) (hti : E.ti = tiOf P) (hcall : CallOK P E.call) {D : Nat → Prop} (hDst : ∀ o ∈ all, ∀ d, o.dst = some d → ¬ D d) {s' : List T} {Q : Exit → Act → World → Prop} (he : evD E all (CheckFast.beforeL all 0 []) pw all 0 [] [] s = some s') (h : Rel w RO Ls s a.tmps)
    (hQ : ∀ a' w' RO' Ls', Rel w' RO' Ls' s' a'.tmps → Stay D a a' → ExtA w RO Ls w' RO' Ls' → Q .normal a' w') : wpAny P .any all.toArray Q all.length (Array.replicate all.length false) a w := by
  obtain ⟨st, W, wd, _, h0, h1, h2⟩ := evD_fact all 0 [] [] s s' (fun _ => []) (fun _ => []) (fun _ => false) rfl (by simp) (fun i hi => by omega) he
  rw [Nat.zero_add] at h1
  have hrun : Run E all pw st W wd s.length := ⟨by rw [h0], fun k o ho => h2 k o (Nat.zero_le _) ho⟩
  have hfalse : ∀ j, (Array.replicate all.length false).getD j false = false := fun j => by
    rw [Array.getD_eq_getD_getElem?, Array.getElem?_replicate]
    split <;> rfl
  have hst : stS st W all.length s.length (fun j => (Array.replicate all.length false).getD j false) = s := by
    refine slots_ext (by rw [stS_len]) fun x hx => ?_
    rw [stS_len] at hx
    rw [stS_slot hx]
    rcases lw_spec W (fun j => (Array.replicate all.length false).getD j false) x all.length with ⟨h3, _⟩ | ⟨k, _, _, h3, _⟩
    · rw [h3, h0]
    · simp only [hfalse] at h3; cases h3
  refine evD_any hE hti hcall hrun hDst all.length _ a w RO Ls (by simp) (fun j _ hj => by simp only [hfalse] at hj; cases hj) ?_ (by rw [hst]; exact h) fun a' w' RO' Ls' h4 h5 h6 => hQ a' w' RO' Ls' (by rw [← h1]; exact h4) h5 h6
  unfold cntF
  rw [Array.toList_replicate]
  simp
end
end Go.Os
set_option linter.unusedVariables false
namespace Go.Os
theorem strip_spec : ∀ (q q' x : Pth), strip q q' = some x → q' = q ++ x
  | [], q', x, h => by simp [strip] at h; simp [h]
  | .d o :: a, q', x, h => by
    cases q' with
    | nil => simp [strip] at h
    | cons y b =>
      cases y with
      | d o' =>
        simp only [strip] at h
        split at h
        · rename_i e
          have := strip_spec a b x h
          simp [this, eq_of_beq e]
        · cases h
      | _ => simp [strip] at h
  | .t k :: a, q', x, h => by
    cases q' with
    | nil => simp [strip] at h
    | cons y b =>
      cases y with
      | t k' =>
        simp only [strip] at h
        split at h
        · rename_i e
          have := strip_spec a b x h
          simp [this, eq_of_beq e]
        · cases h
      | _ => simp [strip] at h
  | .e i sz o :: a, q', x, h => by cases q' <;> simp [strip] at h
theorem strip_none : ∀ (q q' : Pth), flatP q = true → strip q q' = none → pre q q' = false
  | [], q', _, h => by simp [strip] at h
  | .d o :: a, q', hf, _ => by simp [flatP] at hf
  | .e i sz o :: a, q', hf, _ => by simp [flatP] at hf
  | .t k :: a, q', hf, h => by
    cases q' with
    | nil => rfl
    | cons y b =>
      cases y with
      | t k' =>
        simp only [strip] at h
        simp only [pre, Sp.may]
        split at h
        · rename_i e
          rw [e, strip_none a b (by simpa [flatP] using hf) h]; rfl
        · rename_i e
          rw [e]; rfl
      | d o => simp [pre, Sp.may]
      | e i sz o => simp [pre, Sp.may]
theorem adAt_flat : ∀ (q : Pth) (L : Ly), flatP q = true → adAt L q = none
  | [], L, _ => adAt_nil L
  | .d o :: a, L, h => by simp [flatP] at h
  | .e i sz o :: a, L, h => by simp [flatP] at h
  | .t k :: a, L, h => by
    cases L with
    | ag cs =>
      simp only [adAt, Option.bind_eq_none_iff]
      exact fun K _ => adAt_flat a K (by simpa [flatP] using h)
    | _ => simp [adAt]
theorem setT_map {fp : Nat → Pth → T} {fv : Nat → Pth → Nat → Option (Nat × Nat) → T} : ∀ (q : Pth) (t c t' : T), flatP q = true → setT re t q c = some t' → setT re (mapT fp fv t) q (mapT fp fv c) = some (mapT fp fv t')
  | [], t, c, t', _, h => by rw [setT_nil] at h ⊢; cases h; rfl
  | .d o :: a, t, c, t', h, _ => by simp [flatP] at h
  | .e i sz o :: a, t, c, t', h, _ => by simp [flatP] at h
  | .t k :: a, t, c, t', hf, h => by
    have setm : ∀ (l : List T) (z : T), mapL fp fv (l.set k z) = (mapL fp fv l).set k (mapT fp fv z) := by
      have hm : ∀ l : List T, mapL fp fv l = l.map (mapT fp fv) := by
        intro l; induction l with
        | nil => rfl
        | cons a l ih => simp [mapL, ih]
      intro l z; rw [hm, hm, List.map_set]
    cases t with
    | a l =>
      simp only [setT] at h
      split at h
      · rename_i x hx
        split at h
        · rename_i y hy
          cases h
          have := setT_map (fp := fp) (fv := fv) a x c y (by simpa [flatP] using hf) hy
          simp only [mapT, setT, mapL_get, hx, Option.map_some, this, setm]
        · cases h
      · cases h
    | tp b l =>
      simp only [setT] at h
      split at h
      · rename_i x hx
        split at h
        · rename_i y hy
          cases h
          have := setT_map (fp := fp) (fv := fv) a x c y (by simpa [flatP] using hf) hy
          simp only [mapT, setT, mapL_get, hx, Option.map_some, this, setm]
        · cases h
      · cases h
    | _ => simp [setT] at h
section
variable {P : Program} {w : World} {RO : Nat → Prop} {Ls : List Ly} {a : Act} {s : List T} {tm : Array Value}
theorem renP_a {r q d q2 r' q' l} : renP r q d q2 r' q' ≠ .a l := by unfold renP; split <;> simp
theorem renP_r {r q d q2 r' q' x} : renP r q d q2 r' q' ≠ .r x := by unfold renP; split <;> simp
theorem renV_a {r q d q2 r' q' sz w l} : renV r q d q2 r' q' sz w ≠ .a l := by unfold renV; split <;> simp
theorem renV_r {r q d q2 r' q' sz w x} : renV r q d q2 r' q' sz w ≠ .r x := by unfold renV; split <;> simp
theorem move_ok (h : Rel w RO Ls s tm) {r d sz : Nat} {q : Pth} (hd : slot s d = .v r q sz none) (hf : flatP q = true) {s' : List T} (hm : move re s r q d = some s') :
    ∃ Ls', Rel w RO Ls' s' tm ∧ ExtA w RO Ls w RO Ls' := by
  unfold move at hm
  split at hm
  · rename_i fl sz' l hg
    split at hm
    · rename_i s1 hs1
      simp only [Option.some.injEq] at hm
      subst hm
      obtain ⟨t', ht', hst⟩ := setP_slot hs1
      have hdl : d < s.length := by
        rcases Nat.lt_or_ge d s.length with h1 | h1
        · exact h1
        · rw [slot_ge h1] at hd; cases hd
      have hTd := h.slot d
      rw [hd] at hTd
      obtain ⟨hLd, L0, L1, v, h0, h1, hv, hw⟩ := hTd
      simp only [List.cons.injEq, and_true] at hv
      obtain ⟨v', hTC⟩ := rel_place h hg rfl h0 h1
      have hrd : r ≠ d := by
        intro e
        subst e
        unfold getP at hg
        rw [hd] at hg
        cases q with
        | nil => simp [getT] at hg
        | cons y q => cases y <;> simp [getT] at hg
      have hrl : r < Ls.length := (List.getElem?_eq_some_iff.1 h0).1
      have hrs : r < s.length := by rw [← h.lenL]; exact hrl
      have hL0 : Ls.getD r .no = L0 := getD_some h0
      have hvv : v' = v := by
        obtain ⟨_, ⟨_, hv2, hL⟩ | ⟨g, cap, cur, e, hv2, hL, _⟩⟩ := hTC
        · subst hL
          simp only [List.cons.injEq, and_true] at hv2
          rw [hv2]; exact hw.symm
        · subst hL
          simp only [List.cons.injEq, and_true] at hv2
          rw [hv2]; exact hw.symm
      rw [hvv] at hTC
      generalize hLs' : (Ls.set r (setLy L0 q .no)).set d L1 = Ls'
      have hgetd : Ls'[d]? = some L1 := by rw [← hLs', List.getElem?_set_self (by simp; rw [h.lenL]; exact hdl)]
      have hgetr : Ls'[r]? = some (setLy L0 q .no) := by rw [← hLs', List.getElem?_set_ne (Ne.symm hrd), List.getElem?_set_self hrl]
      have hgeto : ∀ j, j ≠ r → j ≠ d → Ls'[j]? = Ls[j]? := fun j h1 h2 => by rw [← hLs', List.getElem?_set_ne (Ne.symm h2), List.getElem?_set_ne (Ne.symm h1)]
      have hLl : Ls'.length = Ls.length := by rw [← hLs']; simp
      have hgetD : ∀ j, j ≠ r → j ≠ d → Ls'.getD j .no = Ls.getD j .no := fun j h1 h2 => by
        rw [List.getD_eq_getElem?_getD, List.getD_eq_getElem?_getD, hgeto j h1 h2]
      have hnotd : ∀ r1 L, Ls[r1]? = some L → L.bar = false → r1 ≠ d := fun r1 L h1 hb e => by
        subst e
        rw [getD_some h1] at hLd
        subst hLd
        simp [Ly.bar] at hb
      have hM : ∀ rs, Maps w RO Ls Ls' (renP r q d []) (renV r q d []) rs := by
        intro rs
        refine ⟨fun r1 _ q1 M g o hr1 had => ?_, fun r1 _ q1 sz1 wd M M1 x hr1 hly hvw => ?_⟩
        · have hr1d : r1 ≠ d := hnotd r1 M hr1 (by
            cases hb : M.bar with
            | false => rfl
            | true => rw [bar_ad M q1 hb] at had; cases had)
          unfold renP
          by_cases e : r = r1
          · subst e
            rw [h0] at hr1; cases hr1
            cases hst2 : strip q q1 with
            | some x =>
              simp only [beq_self_eq_true]
              have hq1 := strip_spec q q1 x hst2
              subst hq1
              have hx : x ≠ [] := fun e => by
                subst e
                rw [List.append_nil, adAt_flat q L0 hf] at had; cases had
              rw [adAt_append L0 q x hx, h1] at had
              exact ⟨rfl, L1, g, o, hgetd, had, rfl⟩
            | none =>
              simp only [beq_self_eq_true]
              exact ⟨rfl, _, g, o, hgetr, ad_set q L0 .no q1 _ had (by rw [strip_none q q1 hf hst2]; rfl), rfl⟩
          · rw [show (r == r1) = false by simpa using e]
            simp only
            exact ⟨rfl, M, g, o, by rw [hgeto r1 (Ne.symm e) hr1d]; exact hr1, had, rfl⟩
        · have hr1d : r1 ≠ d := hnotd r1 M hr1 (by
            cases hb : M.bar with
            | false => rfl
            | true => have := bar_ly M q1 M1 hb hly; rw [viewV_bar hvw] at this; cases this)
          unfold renV
          by_cases e : r = r1
          · subst e
            rw [h0] at hr1; cases hr1
            cases hst2 : strip q q1 with
            | some x0 =>
              simp only [beq_self_eq_true]
              have hq1 := strip_spec q q1 x0 hst2
              subst hq1
              rw [lyAt_append L0 q x0, h1] at hly
              exact ⟨rfl, L1, M1, x, hgetd, hly, rfl, hvw⟩
            | none =>
              simp only [beq_self_eq_true]
              obtain ⟨M2, h4, h5⟩ := ly_set q L0 .no q1 M1 hly (strip_none q q1 hf hst2)
              exact ⟨rfl, _, M2, x, hgetr, h4, rfl, viewV_top h5 hvw⟩
          · rw [show (r == r1) = false by simpa using e]
            simp only
            exact ⟨rfl, M, M1, x, by rw [hgeto r1 (Ne.symm e) hr1d]; exact hr1, hly, rfl, hvw⟩
      have hmap : ∀ j, TV w RO Ls' (mapT (renP r q d []) (renV r q d []) (slot s j)) (tm.getD j undef) (Ls.getD j .no) := fun j =>
        TV_map (fun _ _ => rfl) (fun _ h => h) (fun _ _ => rfl) (fun _ _ _ => renP_a) (fun _ _ _ => renP_r) (fun _ _ _ _ _ => renV_a) (fun _ _ _ _ _ => renV_r) (hM _) (h.slot j)
      have hNb : (setLy L0 q .no).bs.Sublist L0.bs := setLy_bs q L0 .no rfl
      have hL1L0 := lyAt_bs q L0 L1 h1
      have hL0nd : L0.bs.Nodup := nodup_of_get h.nodup h0
      have hdis : ∀ g ∈ L1.bs, g ∉ (setLy L0 q .no).bs := setLy_out q L0 .no L1 rfl hL0nd h1
      have hL1nd : L1.bs.Nodup := by
        obtain ⟨_, ⟨_, _, hL⟩ | ⟨g, cap, cur, e, _, hL, _⟩⟩ := hTC
        · rw [hL]; simp [Ly.bs]
        · rw [hL]; simp [Ly.bs, Ly.bsL]
      have hmid : (Ly.bsL (Ls.set r (setLy L0 q .no))).Nodup := nodup_set h.nodup (hNb.nodup hL0nd) fun g hg j hj hgj => hj (getD_disj h.nodup hgj (by rw [hL0]; exact hNb.subset hg))
      have hbs : ∀ g ∈ Ly.bsL Ls', g ∈ Ly.bsL Ls := fun g hg => by
        rw [← hLs'] at hg
        rcases bsL_set_mem hg with hg | ⟨j, _, hg⟩
        · exact bsL_get h0 g (hL1L0 g hg)
        · rw [set_getD] at hg
          split at hg
          · exact bsL_get h0 g (hNb.subset hg)
          · exact getD_mem hg
      refine ⟨Ls', ⟨?_, ?_, fun j => ?_, ?_, fun g hg => h.own g (hbs g hg), h.ro⟩, ⟨rfl, rfl, rfl, Nat.le_refl _, fun _ _ _ => rfl, fun _ h => h, fun _ h => .inl h, fun g hg => .inl (hbs g hg)⟩⟩
      · rw [h.len]; cases q <;> simp [renL, mapL_length, hst, leftAt]
      · rw [hLl, h.lenL]; cases q <;> simp [renL, mapL_length, hst, leftAt]
      · -- the slots
        have hinner : ∀ j, slot (renL r q d [] (leftAt s1 r sz' q)) j = mapT (renP r q d []) (renV r q d []) (slot (leftAt s1 r sz' q) j) := fun j => by rw [renL, mapL_getD]
        have hlen2 : (renL r q d [] (leftAt s1 r sz' q)).length = s.length := by
          rw [renL, mapL_length, hst]; cases q <;> simp [leftAt]
        rw [slot_set]
        by_cases ej : j = d
        · subst ej
          rw [if_pos ⟨rfl, by rw [hlen2]; exact hdl⟩, getD_some hgetd, hv]
          have := TC_map (fp := .p) (fv := .v) (Ls' := Ls') (fun _ _ => rfl) (fun _ h => h) (.own fl sz' l) [v] L1 (fun _ _ => rfl) ⟨by simp [roots], by simp [roots]⟩ hTC
          exact this
        · rw [if_neg (fun e => ej e.1), hinner]
          by_cases er : j = r
          · subst er
            rw [getD_some hgetr]
            cases q with
            | nil =>
              simp only [leftAt]
              rw [hst, slot_set, if_pos ⟨rfl, by simp; exact hrs⟩]
              have hr2 : renV j [] d [] j [] sz' none = .v d [] sz' none := by simp [renV, strip]
              show TV w RO Ls' (renV j [] d [] j [] sz' none) (tm.getD j undef) (setLy L0 [] .no)
              rw [hr2, setLy_nil]
              have hsl : slot s j = .own fl sz' l := by
                have := hg; unfold getP at this
                generalize slot s j = tt at this
                cases tt <;> simp [getT] at this
                all_goals simp [this]
              have hTr := h.slot j
              rw [hsl, hL0] at hTr
              rw [lyAt_nil] at h1; cases h1
              refine ⟨rfl, L0, L0, tm.getD j undef, hgetd, lyAt_nil L0, rfl, ?_⟩
              obtain ⟨_, ⟨_, hv2, hL⟩ | ⟨g, cap, cur, e, hv2, hL, _⟩⟩ := hTr
              · subst hL
                simp only [List.cons.injEq, and_true] at hv2
                exact hv2
              · subst hL
                simp only [List.cons.injEq, and_true] at hv2
                exact hv2
            | cons y q =>
              simp only [leftAt]
              have e1 : slot s1 j = t' := by rw [hst, slot_set, if_pos ⟨rfl, hrs⟩]
              rw [e1]
              have := setT_map (fp := renP j (y :: q) d []) (fv := renV j (y :: q) d []) (y :: q) _ _ _ hf ht'
              have hj := hmap j
              rw [hL0] at hj
              exact gsetV (N := .no) rfl (by simp) hj this fun c0 v1 _ _ => rfl
          · rw [hgetD j er ej]
            have e1 : slot (leftAt s1 r sz' q) j = slot s j := by
              cases q <;> simp only [leftAt] <;> (rw [hst]; simp only [slot_set]; simp [er])
            rw [e1]
            exact hmap j
      · rw [← hLs']
        refine nodup_set hmid hL1nd fun g hg j hj hgj => ?_
        rw [set_getD] at hgj
        split at hgj
        · exact hdis g hg hgj
        · rename_i hne
          have : j = r := getD_disj h.nodup hgj (by rw [hL0]; exact hL1L0 g hg)
          exact hne ⟨this, hrl⟩
    · cases hm
  · cases hm
theorem takeOver_ok {E : Env} (hE : E.A = re) : ∀ (l : List Oper) (s : List T) (Ls : List Ly), Rel w RO Ls s tm → ∃ Ls', Rel w RO Ls' (takeOver E s l) tm ∧ ExtA w RO Ls w RO Ls'
  | [], s, Ls, h => ⟨Ls, h, ExtA.refl _ _ _⟩
  | o :: l, s, Ls, h => by
    unfold takeOver
    split
    · split
      · rename_i s' hs'
        simp only [Option.bind_eq_some_iff] at hs'
        obtain ⟨d, hd, x, hx, hm⟩ := hs'
        unfold ownerOf at hx
        split at hx
        · rename_i r q sz wd hsl
          split at hx
          · split at hx
            · rename_i hf
              cases hx
              rw [hE] at hm
              obtain ⟨Ls1, h1, h2⟩ := move_ok h hsl hf hm
              obtain ⟨Ls2, h3, h4⟩ := takeOver_ok hE l s' Ls1 h1
              exact ⟨Ls2, h3, h2.trans h4⟩
            · cases hx
          · cases hx
        · cases hx
      · exact takeOver_ok hE l s Ls h
    · exact takeOver_ok hE l s Ls h
theorem region_ok {E : Env} (hE : E.A = re) (hti : E.ti = tiOf P) (hcall : CallOK P E.call) (hmix : P.follows .mixedOrders = true) {id : Nat} {ops : Array Oper} {dr : Bool} {D : Nat → Prop} (hDst : ∀ o ∈ ops.toList, ∀ d, o.dst = some d → ¬ D d) {s' : List T} {Q : Exit → Act → World → Prop}
    {k : Nat} (he : evReg E k ops dr s = some s') (h : Rel w RO Ls s a.tmps)
    (hQ : ∀ a' w' RO' Ls', Rel w' RO' Ls' s' a'.tmps → Stay D a a' → ExtA w RO Ls w' RO' Ls' → Q .normal a' w') : (Code.region id ops dr).wp P Q a w := by
  unfold evReg at he
  simp only [Option.map_eq_some_iff] at he
  obtain ⟨s1, he, rfl⟩ := he
  have fin : ∀ a' w' RO' Ls', Rel w' RO' Ls' s1 a'.tmps → Stay D a a' → ExtA w RO Ls w' RO' Ls' → Q .normal a' w' := fun a' w' RO' Ls' h1 h2 h3 => by
    obtain ⟨Ls2, h4, h5⟩ := takeOver_ok hE ops.toList s1 Ls' h1
    exact hQ a' w' RO' Ls2 h4 h2 (h3.trans h5)
  cases dr with
  | false =>
    have := evR_ok (Q := Q) hE hti hcall hDst ops.toList 0 s s1 w RO Ls a rfl he h fin
    refine wp_region ?_
    rw [List.range_eq_range']
    simpa using this
  | true =>
    have := evD_ok (Q := Q) (w := { w with drawn := w.drawn + 1 }) hE hti hcall hDst he (h.drawn _) fun a' w' RO' Ls' h1 h2 h3 => fin a' w' RO' Ls' h1 h2 ((ExtA.drawn w RO Ls _).trans h3)
    refine wp_region_any hmix ?_
    simpa using this
end
end Go.Os
