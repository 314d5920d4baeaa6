/-
  The evaluator of the model's code over pure trees, and its soundness: part B of 8.
-/
import Derived.Test.YthlnfebecphcmaaGreatOsA
import Derived.Laws.Entries
import Derived.Laws.Cells
import Derived.Laws.Slices
import Derived.Laws.MakeOwn
import Derived.Laws.BytesString
import Derived.Laws.StructEq
import Derived.Laws.Cover3
import Derived.Laws.Strings
set_option linter.unusedVariables false
set_option linter.unusedSimpArgs false
set_option linter.unusedVariables false
namespace Go.Os
section
variable {w : World} {RO : Nat → Prop} {Ls : List Ly}
theorem bsL_set_mem {d : Nat} {L : Ly} {g : Nat} (h : g ∈ Ly.bsL (Ls.set d L)) : g ∈ L.bs ∨ ∃ j, j ≠ d ∧ g ∈ (Ls.getD j .no).bs := by
  obtain ⟨j, L1, hj, hg⟩ := mem_bsL_get h
  by_cases e : j = d
  · subst e
    have hlt := (List.getElem?_eq_some_iff.1 hj).1
    rw [List.getElem?_set_self (by simpa using hlt)] at hj
    cases hj; exact .inl hg
  · rw [List.getElem?_set_ne (Ne.symm e)] at hj
    exact .inr ⟨j, e, by simpa [hj] using hg⟩
theorem getD_mem {j g : Nat} (h : g ∈ (Ls.getD j .no).bs) : g ∈ Ly.bsL Ls := by
  rw [List.getD_eq_getElem?_getD] at h
  cases hj : Ls[j]? with
  | none => simp [hj, Ly.bs] at h
  | some L => simp [hj] at h; exact bsL_get hj g h
theorem nodup_iff : ∀ (cs : List Ly), (Ly.bsL cs).Nodup ↔ (∀ (j : Nat) (L : Ly), cs[j]? = some L → L.bs.Nodup) ∧ ∀ (j k : Nat) (L M : Ly), cs[j]? = some L → cs[k]? = some M → j ≠ k → ∀ x ∈ L.bs, x ∉ M.bs := by
  intro cs
  refine ⟨fun h => ⟨fun j L hj => nodup_of_get h hj, fun j k L M hj hk hne => nodup_get h hj hk hne⟩, fun h => ?_⟩
  induction cs with
  | nil => exact List.nodup_nil
  | cons a cs ih =>
    simp only [Ly.bsL, List.nodup_append]
    refine ⟨h.1 0 a rfl, ih ⟨fun j L hj => h.1 (j + 1) L (by simpa using hj), fun j k L M hj hk hne => h.2 (j + 1) (k + 1) L M (by simpa using hj) (by simpa using hk) (by omega)⟩, ?_⟩
    intro x hx y hy e
    subst e
    obtain ⟨j, L, hj, hx'⟩ := mem_bsL_get hy
    exact h.2 0 (j + 1) a L rfl (by simpa using hj) (by omega) x hx hx'
theorem nodup_set {d : Nat} {L : Ly} (h : (Ly.bsL Ls).Nodup) (hL : L.bs.Nodup) (hdis : ∀ g ∈ L.bs, ∀ j, j ≠ d → g ∉ (Ls.getD j .no).bs) : (Ly.bsL (Ls.set d L)).Nodup := by
  rw [nodup_iff] at h ⊢
  have get : ∀ (j : Nat) (M : Ly), (Ls.set d L)[j]? = some M → (j = d ∧ M = L) ∨ (j ≠ d ∧ Ls[j]? = some M) := by
    intro j M hj
    by_cases e : j = d
    · subst e
      have hlt := (List.getElem?_eq_some_iff.1 hj).1
      rw [List.getElem?_set_self (by simpa using hlt)] at hj
      cases hj; exact .inl ⟨rfl, rfl⟩
    · rw [List.getElem?_set_ne (Ne.symm e)] at hj; exact .inr ⟨e, hj⟩
  refine ⟨fun j M hj => ?_, fun j k M N hj hk hne x hx hy => ?_⟩
  · rcases get j M hj with ⟨_, rfl⟩ | ⟨_, hj⟩
    · exact hL
    · exact h.1 j M hj
  · rcases get j M hj with ⟨rfl, rfl⟩ | ⟨hjd, hj'⟩
    · rcases get k N hk with ⟨rfl, rfl⟩ | ⟨hkd, hk'⟩
      · exact hne rfl
      · exact hdis x hx k hkd (by simpa [hk'] using hy)
    · rcases get k N hk with ⟨rfl, rfl⟩ | ⟨hkd, hk'⟩
      · exact hdis x hy j hjd (by simpa [hj'] using hx)
      · exact h.2 j k M N hj' hk' hne x hx hy
mutual
theorem owner_barC : ∀ (t : T) (vs : List Value) (L : Ly), owner t = false → TC w RO Ls t vs L → L.bar = true
  | .u, _, _, _, h => by rw [show _ = Ly.no from h]; rfl
  | .r x, _, _, ho, h => by
    rcases h.2 with h | ⟨⟨sz, l, rfl⟩, _⟩
    · rw [h]; rfl
    · simp [owner] at ho
  | .own .., _, _, ho, _ => by simp [owner] at ho
  | .ow .., _, _, ho, _ => by simp [owner] at ho
  | .bx _, _, _, ho, _ => by simp [owner] at ho
  | .p .., _, _, _, h => by rw [h.1]; rfl
  | .v .., _, _, _, h => by rw [h.1]; rfl
  | .cp .., _, _, _, h => by rw [h.1]; rfl
  | .f .., _, _, _, h => by rw [h.1]; rfl
  | .a l, vs, _, ho, h => by
    obtain ⟨cs, hL, h⟩ := h
    rw [hL]; simpa [Ly.bar] using owner_barCL l vs cs (by simpa [owner] using ho) h
  | .tp b l, _, _, ho, h => by
    obtain ⟨tv, cs, _, hL, h⟩ := h
    rw [hL]; simpa [Ly.bar] using owner_barCL l tv.toList cs (by simpa [owner] using ho) h
  termination_by structural x => x
theorem owner_barCL : ∀ (l : List T) (vs : List Value) (cs : List Ly), ownerL l = false → TCL w RO Ls l vs cs → Ly.barL cs = true
  | [], _, _, _, h => by rw [h.2]; rfl
  | t :: l, _, _, ho, h => by
    obtain ⟨v, vs', L, cs', _, hc, h1, h2⟩ := h
    simp only [ownerL, Bool.or_eq_false_iff] at ho
    rw [hc]; simp [Ly.barL, owner_barC t [v] L ho.1 h1, owner_barCL l vs' cs' ho.2 h2]
  termination_by structural x => x
end
theorem owner_bar {t : T} {v : Value} {L : Ly} (ho : owner t = false) (h : TV w RO Ls t v L) : L.bar = true := by
  cases t with
  | a l =>
    obtain ⟨vs, cs, _, hL, h⟩ := h
    rw [hL]; simpa [Ly.bar] using owner_barCL l vs.toList cs (by simpa [owner] using ho) h
  | r x =>
    rcases h.2 with h | ⟨⟨sz, l, rfl⟩, _⟩
    · rw [h]; rfl
    · simp [owner] at ho
  | _ => exact owner_barC (w := w) (RO := RO) (Ls := Ls) _ [v] L ho h
theorem set_getD {α : Type} (l : List α) (d : Nat) (x dflt : α) (j : Nat) : (l.set d x).getD j dflt = if j = d ∧ d < l.length then x else l.getD j dflt := by
  rw [List.getD_eq_getElem?_getD, List.getD_eq_getElem?_getD, List.getElem?_set]
  by_cases e : d = j
  · subst e
    by_cases hl : d < l.length
    · simp [hl]
    · simp [hl]
  · simp [e, Ne.symm e]
theorem arr_getD_set (a : Array Value) (d : Nat) (x : Value) (j : Nat) : (a.setIfInBounds d x).getD j undef = if j = d ∧ d < a.size then x else a.getD j undef := by
  simp only [Array.getD_eq_getD_getElem?, Array.getElem?_setIfInBounds]
  by_cases e : d = j
  · subst e
    by_cases hl : d < a.size
    · simp [hl]
    · simp [hl]
  · simp [e, Ne.symm e]
theorem mapL_getD (fp : Nat → Pth → T) (fv : Nat → Pth → Nat → Option (Nat × Nat) → T) (s : List T) (j : Nat) : slot (mapL fp fv s) j = mapT fp fv (slot s j) := by
  have : ∀ s : List T, mapL fp fv s = s.map (mapT fp fv) := by
    intro s; induction s with
    | nil => rfl
    | cons a s ih => simp [mapL, ih]
  rw [this, slot, slot, List.getD_eq_getElem?_getD, List.getD_eq_getElem?_getD, List.getElem?_map]
  cases s[j]? <;> simp [mapT]
theorem mapL_length (fp : Nat → Pth → T) (fv : Nat → Pth → Nat → Option (Nat × Nat) → T) (s : List T) : (mapL fp fv s).length = s.length := by
  induction s with
  | nil => rfl
  | cons a s ih => simp [mapL, ih]
theorem killP_a {r q r' q' l} : killP r q r' q' ≠ .a l := by unfold killP; split <;> simp
theorem killP_r {r q r' q' x} : killP r q r' q' ≠ .r x := by unfold killP; split <;> simp
theorem killV_a {r q r' q' sz w l} : killV r q r' q' sz w ≠ .a l := by unfold killV; split <;> simp
theorem killV_r {r q r' q' sz w x} : killV r q r' q' sz w ≠ .r x := by unfold killV; split <;> simp
theorem Maps.killD {w' : World} {RO' : Nat → Prop} {Ls' : List Ly} {d : Nat} (h : ∀ r, r ≠ d → Ls'[r]? = Ls[r]?) (rs : List Nat) : Maps w' RO' Ls Ls' (killP d []) (killV d []) rs := by
  refine ⟨fun r _ q L0 g o h0 h1 => ?_, fun r _ q sz wd L0 L1 x h0 h1 h2 => ?_⟩
  · by_cases e : d = r
    · have : hangsP d [] r q = true := by
        cases q with
        | nil => cases L0 <;> simp [adAt] at h1
        | cons y q => simp [hangsP, e, pre]
      simp only [killP, this]; exact rfl
    · have : hangsP d [] r q = false := by simp [hangsP, e]
      simp only [killP, this]
      exact ⟨rfl, L0, g, o, (h r (Ne.symm e)).trans h0, h1, rfl⟩
  · by_cases e : d = r
    · have : hangsV d [] r q = true := by simp [hangsV, e, pre]
      simp only [killV, this]; exact rfl
    · have : hangsV d [] r q = false := by simp [hangsV, e]
      simp only [killV, this]
      exact ⟨rfl, L0, L1, x, (h r (Ne.symm e)).trans h0, h1, rfl, h2⟩
theorem TV_kill {Ls' : List Ly} {fp : Nat → Pth → T} {fv : Nat → Pth → Nat → Option (Nat × Nat) → T} (hp1 : ∀ r q l, fp r q ≠ .a l) (hp2 : ∀ r q x, fp r q ≠ .r x)
    (hv1 : ∀ r q sz wd l, fv r q sz wd ≠ .a l) (hv2 : ∀ r q sz wd x, fv r q sz wd ≠ .r x) {t : T} {v : Value} {L : Ly} (hM : Maps w RO Ls Ls' fp fv (roots t)) (h : TV w RO Ls t v L) :
    TV w RO Ls' (mapT fp fv t) v L :=
  TV_map (fun _ _ => rfl) (fun _ h => h) (fun _ _ => rfl) hp1 hp2 hv1 hv2 hM h
theorem slot_set (s : List T) (d : Nat) (t : T) (j : Nat) : slot (s.set d t) j = if j = d ∧ d < s.length then t else slot s j := set_getD s d t .u j
theorem setD_ok {s : List T} {tm : Array Value} (h : Rel w RO Ls s tm) {t : T} {v : Value} {L : Ly} {d : Nat} (hT : TV w RO Ls t v L) (hnd : L.bs.Nodup)
    (hdis : ∀ g ∈ L.bs, (∀ j, j ≠ d → g ∉ (Ls.getD j .no).bs) ∧ ¬ RO g ∧ g < w.heap.size) :
    Rel w RO (Ls.set d L) (setD s d t).1 (tm.setIfInBounds d v) := by
  have hne : ∀ r, r ≠ d → (Ls.set d L)[r]? = Ls[r]? := fun r hr => List.getElem?_set_ne (Ne.symm hr)
  have hslot : ∀ (s' : List T), s'.length = s.length → (∀ j, j ≠ d → TV w RO (Ls.set d L) (slot s' j) (tm.getD j undef) (Ls.getD j .no)) → (d < s.length → TV w RO (Ls.set d L) (slot s' d) v L) →
      Rel w RO (Ls.set d L) s' (tm.setIfInBounds d v) := by
    intro s' hl h1 h2
    refine ⟨by simp [h.len, hl], by simp [h.lenL, hl], fun j => ?_, nodup_set h.nodup hnd fun g hg j hj => (hdis g hg).1 j hj, fun g hg => ?_, h.ro⟩
    · rw [arr_getD_set, set_getD]
      by_cases e : j = d
      · subst e
        by_cases hlt : j < s.length
        · rw [if_pos ⟨rfl, by rw [h.len]; exact hlt⟩, if_pos ⟨rfl, by rw [h.lenL]; exact hlt⟩]; exact h2 hlt
        · rw [if_neg (by rw [h.len]; simpa using hlt), if_neg (by rw [h.lenL]; simpa using hlt)]
          have h0 := h.slot j
          rw [slot_ge (by omega)] at h0 ⊢
          exact h0
      · rw [if_neg (by simp [e]), if_neg (by simp [e])]; exact h1 j e
    · rcases bsL_set_mem hg with hg | ⟨j, _, hg⟩
      · exact ⟨(hdis g hg).2.2, (hdis g hg).2.1⟩
      · exact h.own g (getD_mem hg)
  unfold setD
  cases ho : owner (slot s d) with
  | true =>
    have hM : ∀ rs, Maps w RO Ls (Ls.set d L) (killP d []) (killV d []) rs := fun rs => Maps.killD hne rs
    refine hslot _ (by simp [killAll, killL, mapL_length]) (fun j hj => ?_) (fun hd => ?_)
    · rw [slot_set, if_neg (show ¬ (j = d ∧ d < (killAll d [] s).length) by simp [hj])]
      rw [killAll, killL, mapL_getD]
      exact TV_kill (fun _ _ _ => killP_a) (fun _ _ _ => killP_r) (fun _ _ _ _ _ => killV_a) (fun _ _ _ _ _ => killV_r) (hM _) (h.slot j)
    · rw [slot_set, if_pos (show d = d ∧ d < (killAll d [] s).length from ⟨rfl, by simpa [killAll, killL, mapL_length] using hd⟩)]
      exact TV_kill (fun _ _ _ => killP_a) (fun _ _ _ => killP_r) (fun _ _ _ _ _ => killV_a) (fun _ _ _ _ _ => killV_r) (hM _) hT
  | false =>
    have hK : ∀ rs, Keeps Ls (Ls.set d L) rs := by
      intro rs r _ L0 h0 hb
      by_cases e : r = d
      · subst e
        have hs := h.slot r
        have : Ls.getD r .no = L0 := by simp [List.getD_eq_getElem?_getD, h0]
        rw [this] at hs
        rw [owner_bar ho hs] at hb; cases hb
      · rw [hne r e]; exact h0
    refine hslot _ (by simp) (fun j hj => ?_) (fun hd => ?_)
    · rw [slot_set, if_neg (show ¬ (j = d ∧ d < s.length) by simp [hj])]
      exact TV_frame (fun _ _ => rfl) (fun _ h => h) (fun _ _ => rfl) (hK _) (h.slot j)
    · rw [slot_set, if_pos (show d = d ∧ d < s.length from ⟨rfl, hd⟩)]
      exact TV_frame (fun _ _ => rfl) (fun _ h => h) (fun _ _ => rfl) (hK _) hT
structure Ext (w : World) (RO : Nat → Prop) (Ls : List Ly) (W : List Nat) (w' : World) (RO' : Nat → Prop) (Ls' : List Ly) : Prop where
  os : w'.os = w.os
  tape : w'.tape = w.tape
  output : w'.output = w.output
  size : w.heap.size ≤ w'.heap.size
  blk : ∀ k, k < w.heap.size → (∀ r ∈ W, k ∉ (Ls.getD r .no).bs) → w'.heap[k]? = w.heap[k]?
  ro : ∀ g, RO g → RO' g
  ro' : ∀ g, RO' g → RO g ∨ g ∈ Ly.bsL Ls ∨ w.heap.size ≤ g
  own : ∀ g ∈ Ly.bsL Ls', g ∈ Ly.bsL Ls ∨ w.heap.size ≤ g
  ly : ∀ r, r ∉ W → Ls'.getD r .no = Ls.getD r .no
structure New (w w' : World) : Prop where
  os : w'.os = w.os
  tape : w'.tape = w.tape
  output : w'.output = w.output
  size : w.heap.size ≤ w'.heap.size
  blk : ∀ k, k < w.heap.size → w'.heap[k]? = w.heap[k]?
theorem New.refl (w : World) : New w w := ⟨rfl, rfl, rfl, Nat.le_refl _, fun _ _ => rfl⟩
theorem New.trans {a b c : World} (h : New a b) (k : New b c) : New a c :=
  ⟨k.os.trans h.os, k.tape.trans h.tape, k.output.trans h.output, Nat.le_trans h.size k.size, fun i hi => (k.blk i (Nat.lt_of_lt_of_le hi h.size)).trans (h.blk i hi)⟩
theorem New.alloc (w : World) (o : Obj) : New w (w.alloc o) := ⟨rfl, rfl, rfl, by simp, fun k hk => heap_alloc_old w o k hk⟩
theorem New.drew (w : World) : New w w.drew := ⟨rfl, rfl, rfl, Nat.le_refl _, fun _ _ => rfl⟩
theorem Rel.new {w' : World} {RO' : Nat → Prop} {s : List T} {tm : Array Value} (h : Rel w RO Ls s tm) (hn : New w w') (hr : ∀ g, RO g → RO' g) (hr' : ∀ g, RO' g → RO g ∨ (w.heap.size ≤ g ∧ g < w'.heap.size)) :
    Rel w' RO' Ls s tm where
  len := h.len
  lenL := h.lenL
  slot j := TV_frame (fun g hg => hn.blk g (h.ro g hg)) hr (fun g hg => hn.blk g (h.own g (getD_mem hg)).1) (fun r _ L0 h0 _ => h0) (h.slot j)
  nodup := h.nodup
  own g hg := ⟨Nat.lt_of_lt_of_le (h.own g hg).1 hn.size, fun hro => by
    rcases hr' g hro with hro | hro
    · exact (h.own g hg).2 hro
    · have := (h.own g hg).1; omega⟩
  ro g hg := by
    rcases hr' g hg with hg | hg
    · exact Nat.lt_of_lt_of_le (h.ro g hg) hn.size
    · exact hg.2
end
end Go.Os
set_option linter.unusedVariables false
namespace Go.Os
section
variable {P : Program} {w : World} {RO : Nat → Prop} {Ls : List Ly} {a : Act} {s : List T}
def OpOK (P : Program) (w : World) (RO : Nat → Prop) (Ls : List Ly) (a : Act) (o : Oper) (e : Eff) : Prop :=
  ∀ (K : Act → World → Prop) (Q : Exit → Act → World → Prop), (∀ a' w' RO' Ls', Rel w' RO' Ls' e.1 a'.tmps → a'.defers = a.defers → Ext w RO Ls e.2 w' RO' Ls' → K a' w') → o.wp P a w K Q
theorem put_some (a : Act) (d : Tmp) (v : Value) : a.put (some d) v = { a with tmps := a.tmps.setIfInBounds d v } := rfl
theorem setD_W (s : List T) (d : Nat) (t : T) : d ∈ (setD s d t).2 := by unfold setD; split <;> simp
theorem put_ok {w1 : World} {RO1 : Nat → Prop} {v : Value} {t : T} {L : Ly} {d : Option Nat} (h : Rel w1 RO1 Ls s a.tmps) (hT : TV w1 RO1 Ls t v L) (hnd : L.bs.Nodup)
    (hnew : ∀ g ∈ L.bs, g ∉ Ly.bsL Ls ∧ ¬ RO1 g ∧ g < w1.heap.size) :
    ∃ Ls', Rel w1 RO1 Ls' (putD s d t).1 (a.put d v).tmps ∧ (a.put d v).defers = a.defers ∧ (∀ g ∈ Ly.bsL Ls', g ∈ L.bs ∨ g ∈ Ly.bsL Ls) ∧ ∀ r, r ∉ (putD s d t).2 → Ls'.getD r .no = Ls.getD r .no := by
  cases d with
  | none => exact ⟨Ls, h, rfl, fun g hg => .inr hg, fun _ _ => rfl⟩
  | some d =>
    refine ⟨Ls.set d L, setD_ok h hT hnd fun g hg => ⟨fun j _ hj => (hnew g hg).1 (getD_mem hj), (hnew g hg).2⟩, rfl, fun g hg => ?_, fun r hr => ?_⟩
    · rcases bsL_set_mem hg with hg | ⟨j, _, hg⟩
      · exact .inl hg
      · exact .inr (getD_mem hg)
    · have : r ≠ d := fun e => hr (e ▸ setD_W s d t)
      rw [set_getD, if_neg (by simp [this])]
theorem opD {o : Oper} {w1 : World} {v : Value} {t : T} {L : Ly} (h : Rel w RO Ls s a.tmps) (hr : (execOp a.eval o).run P w = .ok (.value v) w1) (hn : New w w1)
    (hT : TV w1 RO Ls t v L) (hnd : L.bs.Nodup) (hnew : ∀ g ∈ L.bs, w.heap.size ≤ g ∧ g < w1.heap.size) : OpOK P w RO Ls a o (putD s o.dst t) := by
  intro K Q hK
  have h1 : Rel w1 RO Ls s a.tmps := h.new hn (fun _ h => h) (fun _ h => .inl h)
  obtain ⟨Ls', hR, hd, ho, hl⟩ := put_ok (a := a) (d := o.dst) h1 hT hnd fun g hg => ⟨fun hm => by have := (h.own g hm).1; have := (hnew g hg).1; omega,
    fun hro => by have := h.ro g hro; have := (hnew g hg).1; omega, (hnew g hg).2⟩
  unfold Oper.wp
  rw [hr]
  refine hK _ _ RO Ls' hR hd ⟨hn.os, hn.tape, hn.output, hn.size, fun k hk _ => hn.blk k hk, fun _ h => h, fun _ h => .inl h, fun g hg => ?_, hl⟩
  rcases ho g hg with hg | hg
  · exact .inr (hnew g hg).1
  · exact .inl hg
theorem opV {o : Oper} {v : Value} {t : T} {L : Ly} (h : Rel w RO Ls s a.tmps) (hr : (execOp a.eval o).run P w = .ok (.value v) w) (hT : TV w RO Ls t v L) (hb : L.bs = []) :
    OpOK P w RO Ls a o (putD s o.dst t) :=
  opD h hr (New.refl w) hT (by rw [hb]; exact List.nodup_nil) (by rw [hb]; simp)
theorem intT_ok {t : T} {v : Value} {L : Ly} {k : IntKind} {n : Int} (h : TV w RO Ls t v L) (hi : intT t = some (k, n)) : v = .int k n := by
  unfold intT at hi
  split at hi
  · cases hi
    have : RC w RO (.i k n) [v] := h.1
    simpa [RC] using this
  · cases hi
theorem boolT_ok {t : T} {v : Value} {L : Ly} {b : Bool} (h : TV w RO Ls t v L) (hi : boolT t = some b) : v = .bool b := by
  unfold boolT at hi
  split at hi
  · cases hi
    have : RC w RO (.b b) [v] := h.1
    simpa [RC] using this
  · cases hi
theorem opd_int (h : Rel w RO Ls s a.tmps) {x : Operand} {k : IntKind} {n : Int} (hi : intT (opd s x) = some (k, n)) : a.eval x = .int k n := by
  obtain ⟨L, hT, _⟩ := opd_ok h x
  exact intT_ok hT hi
theorem TV_R {x : R} {v : Value} (hx : x.one = true) (h : RC w RO x [v]) : TV w RO Ls (.r x) v .no := TV_of_one hx h
theorem ti_info {t : TypeId} {ti : TI} (h : tiOf P t = some ti) : ∃ i d, P.info? t = some i ∧ P.underlying t = some d ∧ ti.agg = aggDesc d ∧
    ti.sz = i.size ∧ ti.bytes = i.bytes ∧ ti.desc = d ∧ ti.zero = i.zero.bind fun v => ofVs v.cells.toList := by
  unfold tiOf at h
  split at h
  · rename_i i d hi hd
    cases h
    exact ⟨i, d, hi, hd, rfl, rfl, rfl, rfl, rfl⟩
  · cases h
theorem run_info {t : TypeId} {i : TypeInfo} (h : P.info? t = some i) (w : World) : (typeInfo t).run P w = .ok i w := by
  simp [typeInfo, h]
theorem run_size {t : TypeId} {i : TypeInfo} (h : P.info? t = some i) (w : World) : (sizeOf t).run P w = .ok i.size w := by
  simp [sizeOf, run_info h]
theorem run_isAgg' {t : TypeId} {d : TypeDesc} (h : P.underlying t = some d) (w : World) : (isAgg t).run P w = .ok (aggDesc d) w := by
  unfold isAgg
  rw [Sem.run_bind, run_underlying h]
  cases d <;> rfl
theorem op_move {o : Oper} {x : Operand} (ho : o.op = .move x) (h : Rel w RO Ls s a.tmps) : OpOK P w RO Ls a o (putD s o.dst (opd s x)) := by
  obtain ⟨L, hT, hb⟩ := opd_ok h x
  exact opV h (by simp [execOp, ho]) hT hb
theorem op_pick {o : Oper} {c x y : Operand} (ho : o.op = .pick c x y) (h : Rel w RO Ls s a.tmps) {t : T} (he : evPick (opd s c) (opd s x) (opd s y) = some t) : OpOK P w RO Ls a o (putD s o.dst t) := by
  unfold evPick at he
  cases hc : boolT (opd s c) with
  | none => simp [hc] at he
  | some b =>
    obtain ⟨Lc, hTc, _⟩ := opd_ok h c
    have hv := boolT_ok hTc hc
    simp only [hc, Option.bind_some] at he
    cases b with
    | true =>
      simp only [Option.some.injEq] at he; subst he
      obtain ⟨L, hT, hb⟩ := opd_ok h x
      exact opV h (by simp [execOp, ho, hv, asBool]) hT hb
    | false =>
      simp only [Option.some.injEq] at he; subst he
      obtain ⟨L, hT, hb⟩ := opd_ok h y
      exact opV h (by simp [execOp, ho, hv, asBool]) hT hb
theorem op_un {o : Oper} {op : UnOp} {ty : TypeId} {x : Operand} (ho : o.op = .unOp op ty x) (h : Rel w RO Ls s a.tmps) {E : Env} (hE : E.A = re) {r : R} (he : evUn E op (opd s x) = some r) :
    OpOK P w RO Ls a o (putD s o.dst (.r r)) := by
  obtain ⟨Lx, hTx, _⟩ := opd_ok h x
  have fin : ∀ v, (execOp a.eval o).run P w = .ok (.value v) w → r.one = true → RC w RO r [v] → OpOK P w RO Ls a o (putD s o.dst (.r r)) :=
    fun v hr h1 hc => opV h hr (TV_R h1 hc) rfl
  unfold evUn at he
  cases op with
  | not =>
    simp only [Option.map_eq_some_iff] at he
    obtain ⟨b, hb, rfl⟩ := he
    have hv := boolT_ok hTx hb
    exact fin (.bool !b) (by simp [execOp, ho, hv, Op.unary]) rfl (by rw [hE]; rfl)
  | neg =>
    simp only [Option.map_eq_some_iff] at he
    obtain ⟨⟨k, n⟩, hb, rfl⟩ := he
    have hv := intT_ok hTx hb
    exact fin (.int k (k.wrap (0 - n))) (by simp [execOp, ho, hv, Op.unary, Op.intArith]) rfl (by rw [hE]; rfl)
  | xor =>
    simp only [Option.map_eq_some_iff] at he
    obtain ⟨⟨k, n⟩, hb, rfl⟩ := he
    have hv := intT_ok hTx hb
    refine fin (.int k (arI .xor k (match k.signed with | true => -1 | false => k.max) n)) ?_ rfl (by rw [hE]; rfl)
    simp only [execOp, ho, hv, Op.unary]
    cases k.signed <;> simp [Op.intBits, arI]
  | plus => simp at he
theorem op_nilChk {o : Oper} {x : Operand} (ho : o.op = .nilCheck x) (h : Rel w RO Ls s a.tmps) {t : T} (he : nilChk (opd s x) = some t) : OpOK P w RO Ls a o (putD s o.dst t) := by
  obtain ⟨L, hT, hb⟩ := opd_ok h x
  unfold nilChk at he
  split at he
  · rename_i r q hx
    cases he
    rw [hx] at hT ⊢
    obtain ⟨hL, L0, g, ofs, h0, h1, h2⟩ := id hT
    simp only [List.cons.injEq, and_true] at h2
    exact opV h (by simp [execOp, ho, h2]) hT hb
  · rename_i l k hx
    cases he
    rw [hx] at hT ⊢
    obtain ⟨hL, g, off, hv, _⟩ := id hT
    simp only [List.cons.injEq, and_true] at hv
    exact opV h (by simp [execOp, ho, hv]) hT hb
  · rename_i g c hx
    cases he
    rw [hx] at hT ⊢
    obtain ⟨hL, cv, hv, _⟩ := id hT
    simp only [List.cons.injEq, and_true] at hv
    unfold fnV at hv
    split at hv
    · exact opV h (by simp [execOp, ho, hv]) hT hb
    · exact opV h (by simp [execOp, ho, hv]) hT hb
  · cases he
theorem TCF_of (h : Rel w RO Ls s a.tmps) : ∀ (l : List Operand), (∀ x ∈ l, ∀ v L, TV w RO Ls (opd s x) v L → L.bs = [] → TC w RO Ls (opd s x) [v] .no) → TCF w RO Ls (l.map (opd s)) (l.map a.eval)
  | [], _ => rfl
  | x :: l, hl => by
    obtain ⟨L, hT, hb⟩ := opd_ok h x
    exact ⟨a.eval x, l.map a.eval, rfl, hl x (by simp) _ L hT hb, TCF_of h l fun y hy => hl y (by simp [hy])⟩
end
end Go.Os
set_option linter.unusedVariables false
namespace Go.Os
theorem adAt_ne {L : Ly} {q : Pth} {x : Nat × Nat} (h : adAt L q = some x) : q ≠ [] := by
  intro e; subst e; cases L <;> simp [adAt] at h
theorem stepBy_ne {q : Pth} {k : Nat} (h : q ≠ []) : stepBy q k ≠ [] := by
  cases q with
  | nil => exact absurd rfl h
  | cons x q => cases q with
    | nil => cases x <;> simp [stepBy]
    | cons y q => simp [stepBy]
theorem adAt_stepBy : ∀ (q : Pth) (L : Ly) {g o k : Nat}, adAt L q = some (g, o) → adAt L (stepBy q k) = some (g, o + k)
  | [], L, _, _, _, h => by cases L <;> simp [adAt] at h
  | [.d m], L, g, o, k, h => by
    cases L with
    | bl g' off n cap cs => simp only [adAt, stepBy, Option.some.injEq, Prod.mk.injEq] at h ⊢; exact ⟨h.1, by omega⟩
    | fz g' off n cap => simp only [adAt, stepBy, Option.some.injEq, Prod.mk.injEq] at h ⊢; exact ⟨h.1, by omega⟩
    | _ => simp [adAt] at h
  | [.e i sz m], L, g, o, k, h => by
    cases L with
    | bl g' off n cap cs => simp only [adAt, stepBy, Option.some.injEq, Prod.mk.injEq] at h ⊢; exact ⟨h.1, by omega⟩
    | fz g' off n cap => simp only [adAt, stepBy, Option.some.injEq, Prod.mk.injEq] at h ⊢; exact ⟨h.1, by omega⟩
    | _ => simp [adAt] at h
  | [.t m], L, g, o, k, h => by
    cases L with
    | ag cs => simp only [adAt, Option.bind_eq_some_iff] at h; obtain ⟨L1, _, h⟩ := h; simp at h
    | _ => simp [adAt] at h
  | x :: y :: q, L, g, o, k, h => by
    have ih := adAt_stepBy (y :: q)
    obtain ⟨z, q', hz⟩ := List.exists_cons_of_ne_nil (stepBy_ne (k := k) (show (y :: q) ≠ [] by simp))
    have hs : stepBy (x :: y :: q) k = x :: stepBy (y :: q) k := by cases x <;> rfl
    rw [hs, hz]
    cases x with
    | d m => cases L with
      | bl g' off n cap cs =>
        simp only [adAt, Option.bind_eq_some_iff] at h ⊢
        obtain ⟨L1, h1, h2⟩ := h
        exact ⟨L1, h1, by rw [← hz]; exact ih L1 h2⟩
      | _ => simp [adAt] at h
    | e i sz m => cases L with
      | bl g' off n cap cs =>
        simp only [adAt, Option.bind_eq_some_iff] at h ⊢
        obtain ⟨L1, h1, h2⟩ := h
        exact ⟨L1, h1, by rw [← hz]; exact ih L1 h2⟩
      | _ => simp [adAt] at h
    | t m => cases L with
      | ag cs =>
        simp only [adAt, Option.bind_eq_some_iff] at h ⊢
        obtain ⟨L1, h1, h2⟩ := h
        exact ⟨L1, h1, by rw [← hz]; exact ih L1 h2⟩
      | _ => simp [adAt] at h
section
variable {P : Program} {w : World} {RO : Nat → Prop} {Ls : List Ly} {a : Act} {s : List T}
mutual
theorem toR_okC : ∀ (t : T) (vs : List Value) (L : Ly) (x : R), TC w RO Ls t vs L → toR t = some x → RC w RO x vs
  | .r y, _, _, _, h, hx => by simp only [toR, Option.some.injEq] at hx; subst hx; exact h.1
  | .a l, vs, _, x, h, hx => by
    obtain ⟨cs, _, h⟩ := h
    simp only [toR] at hx
    cases hl : toRL l with
    | none => simp [hl] at hx
    | some xs =>
      simp only [hl, Option.some.injEq] at hx; subst hx
      exact toRL_ok l vs cs xs h hl
  | .u, _, _, _, _, hx => by simp [toR] at hx
  | .own .., _, _, _, _, hx => by simp [toR] at hx
  | .ow .., _, _, _, _, hx => by simp [toR] at hx
  | .bx _, _, _, _, _, hx => by simp [toR] at hx
  | .p .., _, _, _, _, hx => by simp [toR] at hx
  | .v .., _, _, _, _, hx => by simp [toR] at hx
  | .cp .., _, _, _, _, hx => by simp [toR] at hx
  | .f .., _, _, _, _, hx => by simp [toR] at hx
  | .tp _ _, _, _, _, _, hx => by simp [toR] at hx
  termination_by structural x => x
theorem toRL_ok : ∀ (l : List T) (vs : List Value) (cs : List Ly) (xs : List R), TCL w RO Ls l vs cs → toRL l = some xs → RCL w RO xs vs
  | [], _, _, _, h, hx => by simp only [toRL, Option.some.injEq] at hx; subst hx; exact h.1
  | t :: l, _, _, xs, h, hx => by
    obtain ⟨v, vs', L, cs', hv, _, h1, h2⟩ := h
    simp only [toRL] at hx
    cases ht : toR t with
    | none => simp [ht] at hx
    | some x => cases hl : toRL l with
      | none => simp [ht, hl] at hx
      | some xs' =>
        simp only [ht, hl, Option.some.injEq] at hx; subst hx
        exact ⟨v, vs', hv, toR_okC t [v] L x h1 ht, toRL_ok l vs' cs' xs' h2 hl⟩
  termination_by structural x => x
end
theorem toR_ok {t : T} {v : Value} {L : Ly} {x : R} (h : TV w RO Ls t v L) (hx : toR t = some x) : RV w RO x v := by
  cases t with
  | r y => simp only [toR, Option.some.injEq] at hx; subst hx; exact h.1
  | a l =>
    obtain ⟨vs, cs, hv, _, h⟩ := h
    simp only [toR] at hx
    cases hl : toRL l with
    | none => simp [hl] at hx
    | some xs =>
      simp only [hl, Option.some.injEq] at hx; subst hx
      exact ⟨vs, hv, toRL_ok l vs.toList cs xs h hl⟩
  | _ => simp [toR] at hx
theorem mkAgg_ok {l : List T} {vs : Array Value} {cs : List Ly} (h : TCL w RO Ls l vs.toList cs) (hb : Ly.bsL cs = []) : ∃ L, TV w RO Ls (mkAgg l) (.agg vs) L ∧ L.bs = [] := by
  unfold mkAgg
  cases hl : toRL l with
  | some xs => exact ⟨.no, ⟨⟨vs, rfl, toRL_ok l vs.toList cs xs h hl⟩, .inl rfl⟩, rfl⟩
  | none => exact ⟨.ag cs, ⟨vs, cs, rfl, rfl, h⟩, by simpa [Ly.bs] using hb⟩
theorem TV_of_cell {t : T} {v : Value} {L : Ly} (ht : cellT t = true) (h : TC w RO Ls t [v] L) : TV w RO Ls t v L := by
  cases t with
  | a l => simp [cellT, T.one] at ht
  | tp b l => simp [cellT, T.one] at ht
  | r x =>
    refine ⟨?_, h.2⟩
    cases x with
    | a l => simp [cellT, T.one, R.one] at ht
    | _ => exact h.1
  | _ => exact h
theorem cellT_bor {r : Nat} {q : Pth} {t : T} (h : cellT t = true) : cellT (bor r q t) = true := by
  cases t <;> simp_all [bor, cellT, T.one]
theorem found_bor {r : Nat} {L0 : Ly} (h0 : Ls[r]? = some L0) {q : Pth} {c : T} (h : Found w RO Ls L0 q c) :
    ∃ v' L', TC w RO Ls (bor r q c) [v'] L' ∧ L'.bs = [] ∧ ∀ g o, adAt L0 q = some (g, o) → w.cell? ⟨g, o, none⟩ = some v' := by
  obtain ⟨v', h1, h2⟩ := h
  rcases h1 with ⟨L1, hL1, hT⟩ | ⟨_, x, rfl, hR⟩
  · obtain ⟨L', h3, h4⟩ := borC h0 c q [v'] L1 hL1 hT
    exact ⟨v', L', h3, h4, fun g o ho => (h2 g o ho).1⟩
  · exact ⟨v', .no, ⟨hR, .inl rfl⟩, rfl, fun g o ho => (h2 g o ho).1⟩
theorem Rel.found (h : Rel w RO Ls s a.tmps) {r : Nat} {q : Pth} {c : T} (hc : getP re s r q = some c) (hq : q ≠ []) {L0 : Ly} (h0 : Ls[r]? = some L0) : Found w RO Ls L0 q c := by
  have hs := h.slot r
  have hL : Ls.getD r .no = L0 := by simp [List.getD_eq_getElem?_getD, h0]
  rw [hL] at hs
  rcases getV_ok hs hc with ⟨hq', _⟩ | ⟨_, hf⟩
  · exact absurd hq' hq
  · exact hf
theorem loadC_ok {E : Env} (hE : E.A = re) (h : Rel w RO Ls s a.tmps) {r : Nat} {q : Pth} {L0 : Ly} (h0 : Ls[r]? = some L0) {g o : Nat} (had : adAt L0 q = some (g, o)) :
    ∀ (n k : Nat) (l : List T), loadC E s r q k n = some l → ∃ vs cs, vs.length = n ∧ (∀ j v, vs[j]? = some v → w.cell? ⟨g, o + k + j, none⟩ = some v) ∧ TCL w RO Ls l vs cs ∧ Ly.bsL cs = []
  | 0, k, l, hl => by
    simp only [loadC, Option.some.injEq] at hl; subst hl
    exact ⟨[], [], rfl, by simp, ⟨rfl, rfl⟩, rfl⟩
  | n + 1, k, l, hl => by
    simp only [loadC, Option.bind_eq_some_iff, Option.map_eq_some_iff, hE] at hl
    obtain ⟨c, hc, l', hl', rfl⟩ := hl
    obtain ⟨vs, cs, h1, h2, h3, h4⟩ := loadC_ok hE h h0 had n (k + 1) l' hl'
    obtain ⟨v', L', h5, h6, h7⟩ := found_bor h0 (h.found hc (stepBy_ne (adAt_ne had)) h0)
    refine ⟨v' :: vs, L' :: cs, by simp [h1], fun j v hj => ?_, ⟨v', vs, L', cs, rfl, rfl, h5, h3⟩, by simp [Ly.bsL, h6, h4]⟩
    cases j with
    | zero => simp at hj; subst hj; exact h7 g (o + k) (adAt_stepBy q L0 had)
    | succ j => have := h2 j v (by simpa using hj); rwa [show o + (k + 1) + j = o + k + (j + 1) by omega] at this
theorem run_loadAgg {t : TypeId} {i : TypeInfo} {d : TypeDesc} (hi : P.info? t = some i) (hd : P.underlying t = some d) (hag : aggDesc d = true) {g o : Nat} {vs : List Value}
    (hl : vs.length = i.size) (hc : ∀ j v, vs[j]? = some v → w.cell? ⟨g, o + j, none⟩ = some v) : (loadVar t ⟨g, o, none⟩).run P w = .ok (.agg vs.toArray) w := by
  unfold loadVar
  rw [Sem.run_bind, run_isAgg' hd, hag]
  simp only [Result.andThen_ok, if_true, Sem.run_bind, run_size hi, ← hl]
  rw [run_loadCells_list w ⟨g, o, none⟩ vs (fun j v hj => by rw [Addr.add_lit]; exact hc j v hj)]
  rfl
theorem run_loadOne {t : TypeId} {d : TypeDesc} (hd : P.underlying t = some d) (hag : aggDesc d = false) {g o : Nat} {v : Value}
    (hc : w.cell? ⟨g, o, none⟩ = some v) : (loadVar t ⟨g, o, none⟩).run P w = .ok v w := by
  unfold loadVar
  rw [Sem.run_bind, run_isAgg' hd, hag]
  simp [hc]
theorem RCL_drop : ∀ {l : List R} {vs : List Value}, RCL w RO l vs → ∀ k, RCL w RO (l.drop k) (vs.drop k)
  | [], _, h, k => by rw [show _ = [] from h]; simp [RCL]
  | x :: l, _, h, k => by
    obtain ⟨v, vs', hv, h1, h2⟩ := id h
    cases k with
    | zero => simpa using h
    | succ k => rw [hv]; simpa using RCL_drop h2 k
theorem RCL_take : ∀ {l : List R} {vs : List Value}, RCL w RO l vs → ∀ k, RCL w RO (l.take k) (vs.take k)
  | [], _, h, k => by rw [show _ = [] from h]; simp [RCL]
  | x :: l, _, h, k => by
    obtain ⟨v, vs', hv, h1, h2⟩ := id h
    cases k with
    | zero => simp [RCL]
    | succ k => rw [hv]; exact ⟨v, vs'.take k, rfl, h1, RCL_take h2 k⟩
theorem loadT_ok {E : Env} (hE : E.A = re) (h : Rel w RO Ls s a.tmps) {t : TypeId} {ti : TI} (hti : tiOf P t = some ti) {x c : T} {v : Value} {L : Ly} (hx : TV w RO Ls x v L) (hl : loadT E s ti x = some c) :
    ∃ ad v' L', v = .pointer (some ad) ∧ (loadVar t ad).run P w = .ok v' w ∧ TV w RO Ls c v' L' ∧ L'.bs = [] := by
  obtain ⟨i, d, hi, hd, hag, hsz, _, _, _⟩ := ti_info hti
  unfold loadT at hl
  cases x with
  | cp l o =>
    obtain ⟨hL, g, off, hv, hg, vs, hc, hR⟩ := hx
    simp only [List.cons.injEq, and_true] at hv
    simp only [cutR] at hl
    cases ha : ti.agg with
    | true =>
      simp only [ha] at hl
      split at hl
      · rename_i hle
        simp only [Option.some.injEq] at hl; subst hl
        have hle := of_decide_eq_true hle
        have hlen := RCL_len hR
        refine ⟨_, .agg ((vs.drop o).take ti.sz).toArray, .no, hv, run_loadAgg hi hd (by rw [← hag, ha]) (by simp; omega) (fun j v hj => ?_), ⟨⟨_, rfl, by simpa using RCL_take (RCL_drop hR o) ti.sz⟩, .inl rfl⟩, rfl⟩
        rw [List.getElem?_take] at hj
        split at hj
        · rw [List.getElem?_drop] at hj
          have := hc (o + j) v hj
          rwa [← Nat.add_assoc] at this
        · cases hj
      · cases hl
    | false =>
      simp only [ha, Option.bind_eq_some_iff] at hl
      obtain ⟨y, hy, hl⟩ := hl
      split at hl
      · rename_i h1
        simp only [Option.some.injEq] at hl; subst hl
        obtain ⟨v', hv', hRc⟩ := RCL_get hR hy
        exact ⟨_, v', .no, hv, run_loadOne hd (by rw [← hag, ha]) (hc o v' hv'), TV_of_one h1 hRc, rfl⟩
      · cases hl
  | p r q =>
    obtain ⟨hL, L0, g, o, h0, had, hv⟩ := hx
    simp only [List.cons.injEq, and_true] at hv
    cases ha : ti.agg with
    | true =>
      simp only [ha, Option.map_eq_some_iff] at hl
      obtain ⟨l, hl, rfl⟩ := hl
      obtain ⟨vs, cs, h1, h2, h3, h4⟩ := loadC_ok hE h h0 had ti.sz 0 l hl
      obtain ⟨L', h5, h6⟩ := mkAgg_ok (vs := vs.toArray) (by simpa using h3) h4
      exact ⟨_, .agg vs.toArray, L', hv, run_loadAgg hi hd (by rw [← hag, ha]) (by omega) (fun j v hj => by simpa using h2 j v hj), h5, h6⟩
    | false =>
      simp only [ha, Option.bind_eq_some_iff, hE] at hl
      obtain ⟨y, hy, hl⟩ := hl
      split at hl
      · rename_i h1
        simp only [Option.some.injEq] at hl; subst hl
        obtain ⟨v', L', h5, h6, h7⟩ := found_bor h0 (h.found hy (adAt_ne had) h0)
        exact ⟨_, v', L', hv, run_loadOne hd (by rw [← hag, ha]) (h7 g o had), TV_of_cell (cellT_bor h1) h5, h6⟩
      · cases hl
  | _ => simp at hl
theorem op_load {o : Oper} {t : TypeId} {x : Operand} (ho : o.op = .load t x) {E : Env} (hE : E.A = re) (hti : E.ti = tiOf P) (h : Rel w RO Ls s a.tmps) {c : T}
    (he : (E.ti t).bind (fun ty => loadT E s ty (opd s x)) = some c) : OpOK P w RO Ls a o (putD s o.dst c) := by
  rw [hti] at he
  simp only [Option.bind_eq_some_iff] at he
  obtain ⟨ti, hti', he⟩ := he
  obtain ⟨L, hT, hb⟩ := opd_ok h x
  obtain ⟨ad, v', L', hv, hrun, hT', hb'⟩ := loadT_ok hE h hti' hT he
  exact opV h (by simp [execOp, ho, hv, Instr.loadAt, Instr.sureAddr, hrun]) hT' hb'
theorem run_fieldAt {t : TypeId} {fs : Array Field} {k : Nat} {f : Field} {i : TypeInfo} (hd : P.underlying t = some (.struct fs)) (hf : fs[k]? = some f) (hi : P.info? f.type = some i) (hz : i.size ≠ 0) (g o : Nat) (w : World) :
    (Instr.fieldAt t (.pointer (some ⟨g, o, none⟩)) k).run P w = .ok (.pointer (some ⟨g, o + f.offset, none⟩)) w := by
  simp [Instr.fieldAt, run_underlying hd, hf, Instr.sureAddr, fieldPlace, run_size hi, hz, Addr.add_lit]
theorem fields_desc {ti : TI} {d : TypeDesc} {l : List Field} (h : ti.desc = d) (hf : ti.fields? = some l) : ∃ fs : Array Field, d = .struct fs ∧ l = fs.toList := by
  unfold TI.fields? at hf
  rw [h] at hf
  cases d <;> simp at hf
  rename_i fs
  exact ⟨fs, rfl, hf.symm⟩
theorem op_fieldAddr {o : Oper} {t : TypeId} {x : Operand} {k : Nat} (ho : o.op = .fieldAddr t x k) {E : Env} (hti : E.ti = tiOf P) (h : Rel w RO Ls s a.tmps) {c : T}
    (he : evFieldAddr E t (opd s x) k = some c) : OpOK P w RO Ls a o (putD s o.dst c) := by
  unfold evFieldAddr at he
  rw [hti] at he
  simp only [Option.bind_eq_some_iff] at he
  obtain ⟨ti, hti', l, hfs, f, hf, tf, htf, he⟩ := he
  obtain ⟨i, d, hi, hd, _, _, _, hdesc, _⟩ := ti_info hti'
  obtain ⟨fi, fd, hfi, _, _, hsz, _, _, _⟩ := ti_info htf
  obtain ⟨fs, rfl, rfl⟩ := fields_desc hdesc hfs
  obtain ⟨L, hT, hb⟩ := opd_ok h x
  have hz : fi.size ≠ 0 := by
    intro e
    rw [← hsz] at e
    simp [e] at he
  have he' : (match opd s x with
      | .p r q => some (.p r (stepBy q f.offset))
      | .cp l o => some (.cp l (o + f.offset))
      | _ => none) = some c := by
    split at he
    · cases he
    · exact he
  have hf' : fs[k]? = some f := by simpa using hf
  split at he'
  · rename_i r q hx
    cases he'
    rw [hx] at hT
    obtain ⟨_, L0, g, ofs, h0, had, hv⟩ := hT
    simp only [List.cons.injEq, and_true] at hv
    refine opV (L := .no) h ?_ (show TV w RO Ls (.p r (stepBy q f.offset)) (.pointer (some ⟨g, ofs + f.offset, none⟩)) .no from ⟨rfl, L0, g, _, h0, adAt_stepBy q L0 had, rfl⟩) rfl
    simp [execOp, ho, hv, run_fieldAt hd hf' hfi hz]
  · rename_i l ofs hx
    cases he'
    rw [hx] at hT
    obtain ⟨_, g, off, hv, hg, hR⟩ := hT
    simp only [List.cons.injEq, and_true] at hv
    refine opV (L := .no) h ?_ (show TV w RO Ls (.cp l (ofs + f.offset)) (.pointer (some ⟨g, off + (ofs + f.offset), none⟩)) .no from ⟨rfl, g, off, rfl, hg, hR⟩) rfl
    simp [execOp, ho, hv, run_fieldAt hd hf' hfi hz, Nat.add_assoc]
  · cases he'
theorem cells_ok {t : T} {v : Value} {L : Ly} {l : List T} (h : TV w RO Ls t v L) (hl : t.cells? = some l) :
    ∃ cs, TCL w RO Ls l v.cells.toList cs ∧ (L.bs = [] → Ly.bsL cs = []) ∧ (∀ x ∈ l, x.one = true) ∧ Ly.bsL cs = L.bs := by
  have one : ∀ t : T, t.one = true → TC w RO Ls t [v] L → v.cells = #[v] → ∃ cs, TCL w RO Ls [t] v.cells.toList cs ∧ (L.bs = [] → Ly.bsL cs = []) ∧ (∀ x ∈ [t], x.one = true) ∧ Ly.bsL cs = L.bs := by
    intro t h1 hT hc
    exact ⟨[L], by rw [hc]; exact ⟨v, [], L, [], rfl, rfl, hT, rfl, rfl⟩, by simp [Ly.bsL], by simpa using h1, by simp [Ly.bsL]⟩
  unfold T.cells? at hl
  cases t with
  | a l0 =>
    simp only at hl
    split at hl
    · rename_i h1
      cases hl
      obtain ⟨vs, cs, hv, hL, h⟩ := h
      subst hv hL
      exact ⟨cs, h, by simp [Ly.bs], by simpa using h1, by simp [Ly.bs]⟩
    · cases hl
  | r x =>
    cases x with
    | a l0 =>
      simp only at hl
      split at hl
      · rename_i h1
        cases hl
        obtain ⟨⟨vs, hv, hR⟩, hm⟩ := h
        have hm' : L = .no := by
          rcases hm with hm | ⟨⟨_, _, hx⟩, _⟩
          · exact hm
          · cases hx
        subst hv hm'
        have : ∀ (l : List R) (vs : List Value), RCL w RO l vs → ∃ cs, TCL w RO Ls (l.map .r) vs cs ∧ Ly.bsL cs = [] := by
          intro l
          induction l with
          | nil => intro vs h; exact ⟨[], ⟨h, rfl⟩, rfl⟩
          | cons x l ih =>
            intro vs h
            obtain ⟨v, vs', hv, h1, h2⟩ := h
            obtain ⟨cs, h3, h4⟩ := ih vs' h2
            exact ⟨.no :: cs, ⟨v, vs', .no, cs, hv, rfl, ⟨h1, .inl rfl⟩, h3⟩, by simp [Ly.bsL, Ly.bs, h4]⟩
        obtain ⟨cs, h3, h4⟩ := this l0 vs.toList hR
        refine ⟨cs, h3, fun _ => h4, ?_, by simp [h4, Ly.bs]⟩
        intro x hx
        simp only [List.mem_map] at hx
        obtain ⟨y, hy, rfl⟩ := hx
        exact List.all_eq_true.1 h1 y hy
      · cases hl
    | b x => simp [T.one, R.one] at hl; subst hl; exact one _ rfl ⟨h.1, h.2⟩ (by rw [show v = _ from by simpa [RV, RC] using h.1]; rfl)
    | i k n => simp [T.one, R.one] at hl; subst hl; exact one _ rfl ⟨h.1, h.2⟩ (by rw [show v = _ from by simpa [RV, RC] using h.1]; rfl)
    | s x => simp [T.one, R.one] at hl; subst hl; exact one _ rfl ⟨h.1, h.2⟩ (by rw [show v = _ from by simpa [RV, RC] using h.1]; rfl)
    | pn => simp [T.one, R.one] at hl; subst hl; exact one _ rfl ⟨h.1, h.2⟩ (by rw [show v = _ from by simpa [RV, RC] using h.1]; rfl)
    | sn => simp [T.one, R.one] at hl; subst hl; exact one _ rfl ⟨h.1, h.2⟩ (by rw [show v = _ from by simpa [RV, RC] using h.1]; rfl)
    | fn => simp [T.one, R.one] at hl; subst hl; exact one _ rfl ⟨h.1, h.2⟩ (by rw [show v = _ from by simpa [RV, RC] using h.1]; rfl)
    | ro sz l0 =>
      simp [T.one, R.one] at hl; subst hl
      obtain ⟨ad, cap, hv, _⟩ := (show RC w RO (.ro sz l0) [v] from h.1)
      simp only [List.cons.injEq, and_true] at hv
      exact one _ rfl ⟨h.1, h.2⟩ (by rw [hv]; rfl)
  | u => simp [T.one] at hl
  | tp b l0 => simp [T.one] at hl
  | own fl sz l0 =>
    simp [T.one] at hl; subst hl
    refine one _ rfl h ?_
    obtain ⟨_, ⟨_, hv, _⟩ | ⟨_, _, _, _, hv, _⟩⟩ := h <;> (simp only [List.cons.injEq, and_true] at hv; rw [hv]; rfl)
  | ow sz l0 =>
    simp [T.one] at hl; subst hl
    refine one _ rfl h ?_
    obtain ⟨_, _, _, _, _, _, hv, _⟩ := h
    simp only [List.cons.injEq, and_true] at hv; rw [hv]; rfl
  | bx l0 =>
    simp [T.one] at hl; subst hl
    refine one _ rfl h ?_
    obtain ⟨_, _, _, _, _, hv, _⟩ := h
    simp only [List.cons.injEq, and_true] at hv; rw [hv]; rfl
  | p r q =>
    simp [T.one] at hl; subst hl
    refine one _ rfl h ?_
    obtain ⟨_, _, _, _, _, _, hv⟩ := h
    simp only [List.cons.injEq, and_true] at hv; rw [hv]; rfl
  | v r q sz wd =>
    simp [T.one] at hl; subst hl
    refine one _ rfl h ?_
    obtain ⟨_, _, L1, v', _, _, hv, hw⟩ := h
    simp only [List.cons.injEq, and_true] at hv; subst hv
    cases wd with
    | none => cases L1 <;> simp [viewV] at hw <;> rw [hw] <;> rfl
    | some x => obtain ⟨_, _, _, _, hw, _, _⟩ := hw; rw [hw]; rfl
  | cp l0 k =>
    simp [T.one] at hl; subst hl
    refine one _ rfl h ?_
    obtain ⟨_, _, _, hv, _⟩ := h
    simp only [List.cons.injEq, and_true] at hv; rw [hv]; rfl
  | f g c =>
    simp [T.one] at hl; subst hl
    refine one _ rfl h ?_
    obtain ⟨_, _, hv, _⟩ := h
    simp only [List.cons.injEq, and_true] at hv; rw [hv]
    unfold fnV
    split <;> rfl
end
end Go.Os
set_option linter.unusedVariables false
namespace Go.Os
section
variable {P : Program} {w : World} {RO : Nat → Prop} {Ls : List Ly} {a : Act} {s : List T}
theorem TCL_new {w' : World} (hn : New w w') (hro : ∀ g, RO g → g < w.heap.size) {l : List T} {vs : List Value} {cs : List Ly} (hb : Ly.bsL cs = []) (h : TCL w RO Ls l vs cs) : TCL w' RO Ls l vs cs := by
  have := TCL_map (fp := .p) (fv := .v) (Ls' := Ls) (fun k hk => hn.blk k (hro k hk)) (fun _ h => h) l vs cs (fun k hk => by rw [hb] at hk; simp at hk) (Maps.keeps fun r _ L0 h0 _ => h0) h
  rwa [mapL_id] at this
theorem TCC_of_TCL {g : Nat} : ∀ {l : List T} {vs : List Value} {cs : List Ly} {off : Nat}, TCL w RO Ls l vs cs → (∀ j v, vs[j]? = some v → w.cell? ⟨g, off + j, none⟩ = some v) → TCC w RO Ls g off l cs
  | [], _, _, _, h, _ => h.2
  | t :: l, _, _, off, h, hc => by
    obtain ⟨v, vs', L, cs', hv, he, h1, h2⟩ := h
    subst hv he
    exact ⟨v, L, cs', rfl, by simpa using hc 0 v rfl, h1, TCC_of_TCL h2 fun j u hj => by have := hc (j + 1) u (by simpa using hj); rwa [show off + (j + 1) = off + 1 + j by omega] at this⟩
theorem cell_new (w : World) (c : Array Value) (e : TypeId) (j : Nat) : (w.alloc (.cells c e)).cell? ⟨w.heap.size, j, none⟩ = c[j]? := by simp
theorem box_ok {o : Oper} (h : Rel w RO Ls s a.tmps) {v : Value} {e : TypeId} {l : List T} {cs : List Ly} (hr : (execOp a.eval o).run P w = .ok (.value (.pointer (some ⟨w.heap.size, 0, none⟩))) (w.alloc (.cells v.cells e)))
    (hl : TCL w RO Ls l v.cells.toList cs) (hb : Ly.bsL cs = []) : OpOK P w RO Ls a o (putD s o.dst (.bx l)) := by
  have hn := New.alloc w (.cells v.cells e)
  refine opD (L := .bl w.heap.size 0 0 0 cs) h hr hn ?_ (by simp [Ly.bs, hb]) (by simp [Ly.bs, hb])
  exact ⟨w.heap.size, 0, cs, v.cells, e, rfl, rfl, heap_alloc_new w _, TCC_of_TCL (TCL_new hn h.ro hb hl) fun j u hj => by rw [Nat.zero_add, cell_new]; simpa using hj⟩
theorem op_box {o : Oper} {e : TypeId} {x : Operand} (ho : o.op = .box e x) (h : Rel w RO Ls s a.tmps) {t : T} (he : (opd s x).cells?.map T.bx = some t) : OpOK P w RO Ls a o (putD s o.dst t) := by
  simp only [Option.map_eq_some_iff] at he
  obtain ⟨l, hl, rfl⟩ := he
  obtain ⟨L, hT, hb⟩ := opd_ok h x
  obtain ⟨cs, h1, h2, _, _⟩ := cells_ok hT hl
  exact box_ok h (v := a.eval x) (e := e) (by simp [execOp, ho, Instr.box, newVar, newRow]) h1 (h2 hb)
theorem ofVs_ok : ∀ {vs : List Value} {l : List R}, ofVs vs = some l → RCL w RO l vs
  | [], l, h => by simp only [ofVs, Option.some.injEq] at h; subst h; rfl
  | v :: vs, l, h => by
    simp only [ofVs] at h
    cases hv : ofV v with
    | none => simp [hv] at h
    | some x => cases hl : ofVs vs with
      | none => simp [hv, hl] at h
      | some xs =>
        simp only [hv, hl, Option.some.injEq] at h; subst h
        exact ⟨v, vs, rfl, (ofV_ok hv).1, ofVs_ok hl⟩
theorem ofVs_one : ∀ {vs : List Value} {l : List R}, ofVs vs = some l → ∀ x ∈ l, x.one = true
  | [], l, h => by simp only [ofVs, Option.some.injEq] at h; subst h; simp
  | v :: vs, l, h => by
    simp only [ofVs] at h
    cases hv : ofV v with
    | none => simp [hv] at h
    | some x => cases hl : ofVs vs with
      | none => simp [hv, hl] at h
      | some xs =>
        simp only [hv, hl, Option.some.injEq] at h; subst h
        intro y hy
        rcases List.mem_cons.1 hy with rfl | hy
        · exact (ofV_ok (w := default) (RO := fun _ => False) hv).2
        · exact ofVs_one hl y hy
theorem TCL_of_RCL : ∀ {l : List R} {vs : List Value}, RCL w RO l vs → ∃ cs, TCL w RO Ls (l.map .r) vs cs ∧ Ly.bsL cs = []
  | [], vs, h => ⟨[], ⟨h, rfl⟩, rfl⟩
  | x :: l, vs, h => by
    obtain ⟨v, vs', hv, h1, h2⟩ := h
    obtain ⟨cs, h3, h4⟩ := TCL_of_RCL h2
    exact ⟨.no :: cs, ⟨v, vs', .no, cs, hv, rfl, ⟨h1, .inl rfl⟩, h3⟩, by simp [Ly.bsL, Ly.bs, h4]⟩
theorem zero_ok {t : TypeId} {ti : TI} (h : tiOf P t = some ti) {z : List R} (hz : ti.zero = some z) : ∃ v, (∀ w : World, (zeroValue t).run P w = .ok v w) ∧ ofVs v.cells.toList = some z := by
  obtain ⟨i, d, hi, hd, _, _, _, _, hzero⟩ := ti_info h
  rw [hzero] at hz
  simp only [Option.bind_eq_some_iff] at hz
  obtain ⟨v, hv, hz⟩ := hz
  exact ⟨v, fun w => by simp [zeroValue, run_info hi, hv], hz⟩
theorem op_alloc {o : Oper} {e : TypeId} (ho : o.op = .alloc e) {E : Env} (hti : E.ti = tiOf P) (h : Rel w RO Ls s a.tmps) {t : T} (he : ((E.ti e).bind fun ty => ty.zero.map fun z => T.bx (z.map T.r)) = some t) :
    OpOK P w RO Ls a o (putD s o.dst t) := by
  rw [hti] at he
  simp only [Option.bind_eq_some_iff, Option.map_eq_some_iff] at he
  obtain ⟨ty, hty, z, hz, rfl⟩ := he
  obtain ⟨v, hv, hvs⟩ := zero_ok hty hz
  obtain ⟨cs, h1, h2⟩ := TCL_of_RCL (Ls := Ls) (ofVs_ok (w := w) (RO := RO) hvs)
  exact box_ok h (v := v) (e := e) (by simp [execOp, ho, Instr.alloc, hv, newVar, newRow]) h1 h2
theorem TCL_drop : ∀ {l : List T} {vs : List Value} {cs : List Ly}, TCL w RO Ls l vs cs → ∀ k, TCL w RO Ls (l.drop k) (vs.drop k) (cs.drop k)
  | [], _, _, h, k => by rw [h.1, h.2]; simp [TCL]
  | x :: l, _, _, h, k => by
    obtain ⟨v, vs', L, cs', hv, hc, h1, h2⟩ := id h
    cases k with
    | zero => simpa using h
    | succ k => rw [hv, hc]; simpa using TCL_drop h2 k
theorem TCL_take : ∀ {l : List T} {vs : List Value} {cs : List Ly}, TCL w RO Ls l vs cs → ∀ k, TCL w RO Ls (l.take k) (vs.take k) (cs.take k)
  | [], _, _, h, k => by rw [h.1, h.2]; simp [TCL]
  | x :: l, _, _, h, k => by
    obtain ⟨v, vs', L, cs', hv, hc, h1, h2⟩ := id h
    cases k with
    | zero => simp [TCL]
    | succ k => rw [hv, hc]; exact ⟨v, vs'.take k, L, cs'.take k, rfl, rfl, h1, TCL_take h2 k⟩
theorem bsL_nil_of {cs cs' : List Ly} (h : Ly.bsL cs = []) (hs : ∀ L ∈ cs', L ∈ cs) : Ly.bsL cs' = [] := by
  rw [List.eq_nil_iff_forall_not_mem]
  intro g hg
  obtain ⟨j, L, hj, hgL⟩ := mem_bsL_get hg
  have := mem_bsL (hs L (List.mem_of_getElem? hj)) g hgL
  rw [h] at this; simp at this
theorem part_ok {t : TypeId} {ti : TI} (hti : tiOf P t = some ti) {l : List T} {vs : Array Value} {cs : List Ly} (h : TCL w RO Ls l vs.toList cs) (hb : Ly.bsL cs = []) {off : Nat} {c : T} (hp : partT ti l off = some c) :
    ∃ v L, (part t vs off).run P w = .ok v w ∧ TV w RO Ls c v L ∧ L.bs = [] := by
  obtain ⟨i, d, hi, hd, hag, hsz, _, _, _⟩ := ti_info hti
  unfold partT at hp
  have hlen := (TCL_len h).1
  cases ha : ti.agg with
  | true =>
    simp only [ha] at hp
    split at hp
    · rename_i hle
      have hle := of_decide_eq_true hle
      simp only [Option.some.injEq] at hp; subst hp
      have h1 := TCL_take (TCL_drop h off) ti.sz
      have h2 : Ly.bsL ((cs.drop off).take ti.sz) = [] := bsL_nil_of hb fun L hL => List.mem_of_mem_drop (List.mem_of_mem_take hL)
      have he : (vs.extract off (off + i.size)).toList = (vs.toList.drop off).take ti.sz := by
        simp [hsz, List.take_drop]
      obtain ⟨L, h3, h4⟩ := mkAgg_ok (vs := vs.extract off (off + i.size)) (by rw [he]; exact h1) h2
      refine ⟨_, L, ?_, h3, h4⟩
      simp [part, run_isAgg' hd, ← hag, ha, run_size hi]
    · cases hp
  | false =>
    simp only [ha, Option.bind_eq_some_iff] at hp
    obtain ⟨y, hy, hp⟩ := hp
    split at hp
    · rename_i h1
      simp only [Option.some.injEq] at hp; subst hp
      obtain ⟨v, L, hv, hL, hT⟩ := TCL_get h hy
      refine ⟨v, L, ?_, TV_of_cell (by cases y <;> simp_all [cellT, T.one]) hT, bsL_nil_of (cs' := [L]) hb (by intro L' h'; simp at h'; subst h'; exact List.mem_of_getElem? hL) |> fun h => by simpa [Ly.bsL] using h⟩
      have : vs[off]? = some v := by simpa using hv
      simp [part, run_isAgg' hd, ← hag, ha, this]
    · cases hp
theorem aggC_ok {t : T} {v : Value} {L : Ly} {l : List T} (h : TV w RO Ls t v L) (hb : L.bs = []) (hl : t.aggC? = some l) : ∃ vs cs, v = .agg vs ∧ TCL w RO Ls l vs.toList cs ∧ Ly.bsL cs = [] := by
  unfold T.aggC? at hl
  split at hl
  · rename_i l0
    obtain ⟨cs, h1, h2, _, _⟩ := cells_ok h hl
    obtain ⟨vs, _, hv, _⟩ := h
    subst hv
    exact ⟨vs, cs, rfl, h1, h2 hb⟩
  · rename_i l0
    obtain ⟨cs, h1, h2, _, _⟩ := cells_ok h hl
    obtain ⟨⟨vs, hv, _⟩, _⟩ := h
    subst hv
    exact ⟨vs, cs, rfl, h1, h2 hb⟩
  · cases hl
theorem op_field {o : Oper} {t : TypeId} {x : Operand} {k : Nat} (ho : o.op = .field t x k) {E : Env} (hti : E.ti = tiOf P) (h : Rel w RO Ls s a.tmps) {c : T} (he : evField E t (opd s x) k = some c) :
    OpOK P w RO Ls a o (putD s o.dst c) := by
  unfold evField at he
  rw [hti] at he
  simp only [Option.bind_eq_some_iff] at he
  obtain ⟨ti, hti', l, hfs, f, hf, tf, htf, cs, hcs, hp⟩ := he
  obtain ⟨i, d, hi, hd, _, _, _, hdesc, _⟩ := ti_info hti'
  obtain ⟨fs, rfl, rfl⟩ := fields_desc hdesc hfs
  obtain ⟨L, hT, hb⟩ := opd_ok h x
  obtain ⟨vs, Lc, hv, h1, h2⟩ := aggC_ok hT hb hcs
  obtain ⟨v, L', h3, h4, h5⟩ := part_ok htf h1 h2 hp
  have hf' : fs[k]? = some f := by simpa using hf
  exact opV h (by simp [execOp, ho, Instr.field, run_underlying hd, hf', hv, asAgg, h3]) h4 h5
theorem re_ix {n : Int} {k i : Nat} (h : re.ix n k = some i) : 0 ≤ n ∧ n < (k : Int) ∧ i = n.toNat := by
  simp only [re] at h
  split at h
  · rename_i hc; cases h; exact ⟨hc.1, hc.2, rfl⟩
  · cases h
theorem arr_desc {ti : TI} {d : TypeDesc} {x : Nat × TypeId} (h : ti.desc = d) (hf : ti.arr? = some x) : d = .array x.1 x.2 := by
  unfold TI.arr? at hf
  rw [h] at hf
  cases d <;> simp at hf
  subst hf; rfl
theorem elem_desc {ti : TI} {d : TypeDesc} {e : TypeId} (h : ti.desc = d) (hf : ti.elem? = some e) : d = .slice e := by
  unfold TI.elem? at hf
  rw [h] at hf
  cases d <;> simp at hf
  subst hf; rfl
theorem op_index {o : Oper} {t : TypeId} {x ix : Operand} (ho : o.op = .index t x ix) {E : Env} (hE : E.A = re) (hti : E.ti = tiOf P) (h : Rel w RO Ls s a.tmps) {c : T} (he : evIndex E t (opd s x) (opd s ix) = some c) :
    OpOK P w RO Ls a o (putD s o.dst c) := by
  unfold evIndex at he
  rw [hti, hE] at he
  simp only [Option.bind_eq_some_iff] at he
  obtain ⟨⟨kk, n⟩, hn, ti, hti', ar, har, te, hte, j, hj, cs, hcs, hp⟩ := he
  obtain ⟨i, d, hi, hd, _, _, _, hdesc, _⟩ := ti_info hti'
  obtain ⟨ie, de, hie, _, _, hsz, _, _, _⟩ := ti_info hte
  obtain rfl := arr_desc hdesc har
  obtain ⟨L, hT, hb⟩ := opd_ok h x
  obtain ⟨vs, Lc, hv, h1, h2⟩ := aggC_ok hT hb hcs
  obtain ⟨h3, h4, rfl⟩ := re_ix hj
  obtain ⟨v, L', h5, h6, h7⟩ := part_ok hte h1 h2 hp
  have hnv := opd_int h hn
  refine opV h ?_ h6 h7
  have hm : re.mul n.toNat te.sz = n.toNat * ie.size := by rw [hsz]; rfl
  rw [hm] at h5
  simp [execOp, ho, Instr.index, hnv, asIntOf, run_underlying hd, hv, h3, h4, run_size hie, h5]
theorem op_extract {o : Oper} {x : Operand} {k : Nat} (ho : o.op = .extract x k) (h : Rel w RO Ls s a.tmps) {c : T} (he : rawAt s x k = some c) : OpOK P w RO Ls a o (putD s o.dst c) := by
  unfold rawAt at he
  cases x with
  | tmp t =>
    simp only at he
    split at he
    · rename_i l hl
      simp only [Option.bind_eq_some_iff] at he
      obtain ⟨y, hy, he⟩ := he
      have ht : t < s.length := by
        rcases Nat.lt_or_ge t s.length with h | h
        · exact h
        · rw [slot_ge h] at hl; cases hl
      have h0 := h.ly ht
      have hs := h.slot t
      rw [hl] at hs
      obtain ⟨tv, cs, hv, hL, hTL⟩ := hs
      simp only [List.cons.injEq, and_true] at hv
      have hv : a.tmps.getD t undef = .tuple tv := hv
      obtain ⟨v1, L1, hv1, hc1, hT⟩ := TCL_get hTL hy
      have hk : tv[k]? = some v1 := by simpa using hv1
      have hrun : (execOp a.eval o).run P w = .ok (.value v1) w := by simp [execOp, ho, Act.eval, hv, Instr.extract, hk]
      split at he
      · rename_i h1
        simp only [Option.some.injEq] at he; subst he
        obtain ⟨L', h3, h4⟩ := borC h0 y [.t k] [v1] L1 (by rw [hL]; simp [lyAt, hc1]) hT
        exact opV h hrun (TV_of_cell (cellT_bor h1) h3) h4
      · split at he
        · rename_i l' _
          simp only [Option.some.injEq] at he; subst he
          obtain ⟨us, ds, hu, hLd, hTd⟩ := hT
          simp only [List.cons.injEq, and_true] at hu
          have hu : v1 = .agg us := hu
          obtain ⟨ds', h5, h6⟩ := borCL h0 l' [.t k] 0 us.toList ds (fun i M hi => by
            rw [hL]; simp [lyAt, hc1, hLd, hi]) hTd
          obtain ⟨L', h7, h8⟩ := mkAgg_ok (vs := us) h5 h6
          rw [hu] at hrun
          exact opV h hrun h7 h8
        · cases he
    · cases he
  | _ => simp at he
theorem TCF_refs (h : Rel w RO Ls s a.tmps) : ∀ (l : List Operand), (l.map (opd s)).all isP = true → TCF w RO Ls (l.map (opd s)) (l.map a.eval)
  | [], _ => rfl
  | x :: l, hl => by
    simp only [List.map_cons, List.all_cons, Bool.and_eq_true] at hl
    obtain ⟨L, hT, hb⟩ := opd_ok h x
    refine ⟨a.eval x, l.map a.eval, rfl, ?_, TCF_refs h l hl.2⟩
    cases ho : opd s x with
    | p r q =>
      rw [ho] at hT
      have hL : L = .no := hT.1
      rw [hL] at hT
      exact hT
    | _ => rw [ho] at hl; simp [isP] at hl
theorem mv_not (k g : Nat) : ¬ g + k < k := Nat.not_lt.2 (Nat.le_add_left k g)
theorem fnV_mv (g : Nat) (cv : Array Value) : fnV (g + mvK) cv = .func (.func g) cv #[] := by
  unfold fnV
  generalize mvK = k
  rw [decide_eq_false (mv_not k g), Nat.add_sub_cancel]
theorem op_func {o : Oper} {fn : Fn} {first cap : Array Operand} (ho : o.op = .makeFunc fn first cap) (h : Rel w RO Ls s a.tmps) {c : T} (he : evFn fn (first.toList.map (opd s)) (cap.toList.map (opd s)) = some c) :
    OpOK P w RO Ls a o (putD s o.dst c) := by
  unfold evFn at he
  cases fn with
  | func g =>
    simp only at he
    cases hg : decide (g < mvK) with
    | false => rw [hg] at he; cases he
    | true =>
      rw [hg] at he
      simp only at he
      split at he
      · rename_i hf
        split at he
        · rename_i hc
          simp only [Option.some.injEq] at he; subst he
          have hf' : first = #[] := by simpa using hf
          refine opV (L := .no) (v := .func (.func g) #[] (cap.map a.eval)) h (by simp [execOp, ho, Instr.makeFunc, hf']) ?_ rfl
          exact ⟨rfl, cap.map a.eval, by unfold fnV; rw [hg], by rw [Array.toList_map]; exact TCF_refs h cap.toList hc⟩
        · cases he
      · split at he
        · rename_i hcap hfirst
          simp only [Option.some.injEq] at he; subst he
          have hc' : cap = #[] := by simpa using hcap
          refine opV (L := .no) (v := .func (.func g) (first.map a.eval) #[]) h (by simp [execOp, ho, Instr.makeFunc, hc']) ?_ rfl
          refine ⟨rfl, first.map a.eval, ?_, by rw [Array.toList_map]; exact TCF_refs h first.toList hfirst⟩
          exact congrArg (fun v => [v]) (fnV_mv g (first.map a.eval)).symm
        · cases he
  | _ => simp at he
end
end Go.Os
set_option linter.unusedVariables false
namespace Go.Os
section
variable {P : Program} {w : World} {RO : Nat → Prop} {Ls : List Ly} {a : Act} {s : List T}
theorem TC_of_TV {t : T} {v : Value} {L : Ly} (ht : cellT t = true) (h : TV w RO Ls t v L) : TC w RO Ls t [v] L := by
  cases t with
  | a l => simp [cellT, T.one] at ht
  | tp b l => simp [cellT, T.one] at ht
  | r x =>
    refine ⟨?_, h.2⟩
    cases x with
    | a l => simp [cellT, T.one, R.one] at ht
    | _ => exact h.1
  | _ => exact h
theorem Rel.place (h : Rel w RO Ls s a.tmps) {r : Nat} {q : Pth} {c : T} (hc : getP re s r q = some c) (h1 : cellT c = true) {L0 L1 : Ly} (h0 : Ls[r]? = some L0) (hl : lyAt L0 q = some L1) :
    ∃ v', TC w RO Ls c [v'] L1 := by
  by_cases hq : q = []
  · subst hq
    have hs := h.slot r
    have hL : Ls.getD r .no = L0 := by simp [List.getD_eq_getElem?_getD, h0]
    have hcs : c = Os.slot s r := by
      have hc' : getT re (Os.slot s r) [] = some c := hc
      rw [show getT re (Os.slot s r) [] = some (Os.slot s r) by cases Os.slot s r <;> rfl] at hc'
      exact (Option.some.inj hc').symm
    simp only [lyAt, Option.some.injEq] at hl
    subst hl
    rw [hL, ← hcs] at hs
    exact ⟨_, TC_of_TV h1 hs⟩
  · obtain ⟨v', h2, _⟩ := h.found hc hq h0
    rcases h2 with ⟨L', hL', hT⟩ | ⟨hn, _⟩
    · rw [hl] at hL'; cases hL'; exact ⟨v', hT⟩
    · rw [hl] at hn; cases hn
def Seen (w : World) (RO : Nat → Prop) (v : Value) (sz : Nat) (l : List R) : Prop :=
  ∃ ad cap, v = .slice ad l.length cap ∧ l.length ≤ cap ∧ (l = [] ∨ ∃ g off, ad = some ⟨g, off, none⟩ ∧ RCE w RO sz g off l)
theorem RCE_drop {sz g : Nat} : ∀ {l : List R} {off : Nat} (k : Nat), RCE w RO sz g off l → RCE w RO sz g (off + k * sz) (l.drop k)
  | [], off, k, _ => by simp [RCE]
  | x :: l, off, k, h => by
    cases k with
    | zero => simpa using h
    | succ k => have := RCE_drop k h.2; rwa [show off + sz + k * sz = off + (k + 1) * sz by rw [Nat.add_mul]; omega] at this
theorem RCE_take {sz g : Nat} : ∀ {l : List R} {off : Nat} (k : Nat), RCE w RO sz g off l → RCE w RO sz g off (l.take k)
  | [], off, k, _ => by simp [RCE]
  | x :: l, off, k, h => by
    cases k with
    | zero => simp [RCE]
    | succ k => exact ⟨h.1, RCE_take k h.2⟩
theorem content_ok {sz : Nat} {c : T} {l : List R} {v' : Value} {L1 : Ly} (hT : TC w RO Ls c [v'] L1) (hl : listOf sz c = some l) :
    (L1 = .nl ∧ l = []) ∨ (∃ g off cap, (L1 = .fz g off l.length cap ∨ L1 = .bl g off l.length cap []) ∧ l.length ≤ cap ∧ (l = [] ∨ RCE w RO sz g off l)) ∨ L1 = .no := by
  unfold listOf at hl
  split at hl
  · rename_i fl z l0
    split at hl
    · rename_i hz
      cases hl
      have hz := eq_of_beq hz
      subst hz
      obtain ⟨_, ⟨h1, _, h2⟩ | ⟨g, cap, cur, e, _, hL, _, hle, _, _, h4⟩⟩ := hT
      · exact .inl ⟨h2, h1⟩
      · exact .inr (.inl ⟨g, 0, cap, .inr hL, hle, .inr h4⟩)
    · cases hl
  · rename_i z l0
    split at hl
    · rename_i hz
      cases hl
      have hz := eq_of_beq hz
      subst hz
      obtain ⟨⟨ad, cap, hv, hcap, hr⟩, hm⟩ := hT
      rcases hm with hm | ⟨_, ⟨hv2, hm⟩ | ⟨g, off, n, cap2, hv2, hm⟩⟩
      · exact .inr (.inr hm)
      · rw [hv2] at hv
        simp only [List.cons.injEq, Value.slice.injEq, and_true] at hv
        exact .inl ⟨hm, List.eq_nil_of_length_eq_zero hv.2.1.symm⟩
      · rw [hv2] at hv
        simp only [List.cons.injEq, Value.slice.injEq, and_true] at hv
        obtain ⟨rfl, rfl, rfl⟩ := hv
        refine .inr (.inl ⟨g, off, cap2, .inl hm, hcap, ?_⟩)
        rcases hr with hr | ⟨g', off', h1, _, h2⟩
        · exact .inl hr
        · cases h1; exact .inr h2
    · cases hl
  · cases hl
theorem seen_view (h : Rel w RO Ls s a.tmps) {r : Nat} {q : Pth} {sz : Nat} {wd : Option (Nat × Nat)} {v : Value} {L : Ly} (hT : TV w RO Ls (.v r q sz wd) v L) {c : T} (hc : getP re s r q = some c)
    {l : List R} (hl : listOf sz c = some l) {E : Env} (hE : E.A = re) : Seen w RO v sz (segW E l wd) := by
  obtain ⟨_, L0, L1, v1, h0, h1, hv, hw⟩ := hT
  simp only [List.cons.injEq, and_true] at hv
  subst hv
  have hct : cellT c = true := by
    unfold listOf at hl
    split at hl <;> first | rfl | cases hl
  obtain ⟨v', hTC⟩ := h.place hc hct h0 h1
  have hb := viewV_bar hw
  cases wd with
  | none =>
    show Seen w RO v sz l
    rcases content_ok hTC hl with ⟨hL, rfl⟩ | ⟨g, off, cap, hL, hcap, hr⟩ | hL
    · subst hL
      exact ⟨none, 0, hw, by simp, .inl rfl⟩
    · refine ⟨some ⟨g, off, none⟩, cap, ?_, hcap, hr.imp id fun h => ⟨g, off, rfl, h⟩⟩
      rcases hL with hL | hL <;> (subst hL; exact hw)
    · subst hL; simp [Ly.bar] at hb
  | some x =>
    obtain ⟨o, n⟩ := x
    obtain ⟨_, _, ad, cap, hv, hncap, hn⟩ := hw
    have hsg : segW E l (some (o, n)) = (l.drop o).take n := by simp [segW, hE, re]
    rw [hsg]
    rcases hn with hn | ⟨g, off, m, cp, hL, had, hle⟩
    · subst hn
      exact ⟨ad, cap, by simpa using hv, by simp, .inl (by simp)⟩
    · rcases content_ok hTC hl with ⟨hL', rfl⟩ | ⟨g', off', cap', hL', _, hr⟩ | hL'
      · subst hL'; rcases hL with hL | ⟨cs, hL⟩ <;> cases hL
      · have : g = g' ∧ off = off' ∧ m = l.length := by
          rcases hL with hL | ⟨cs, hL⟩ <;> rcases hL' with hL' | hL' <;> rw [hL] at hL' <;> cases hL' <;> exact ⟨rfl, rfl, rfl⟩
        obtain ⟨rfl, rfl, rfl⟩ := this
        have hlen : ((l.drop o).take n).length = n := by simp; omega
        refine ⟨ad, cap, by rw [hlen]; exact hv, by rw [hlen]; exact hncap, ?_⟩
        rcases hr with hr | hr
        · subst hr; exact .inl (by simp)
        · exact .inr ⟨g, off + o * sz, had, RCE_take n (RCE_drop o hr)⟩
      · subst hL'; rcases hL with hL | ⟨cs, hL⟩ <;> cases hL
theorem elems_ok (h : Rel w RO Ls s a.tmps) {E : Env} (hE : E.A = re) {x : T} {v : Value} {L : Ly} (hT : TV w RO Ls x v L) {l : List R} (hl : elems E s x = some l) {sz : Nat} (hz : szOf x sz = true) : Seen w RO v sz l := by
  unfold elems at hl
  split at hl
  · rename_i z l0
    cases hl
    have hz := eq_of_beq (show (z == sz) = true from hz)
    subst hz
    obtain ⟨ad, cap, hv, hcap, hr⟩ := (show RC w RO (.ro z l) [v] from hT.1)
    simp only [List.cons.injEq, and_true] at hv
    exact ⟨ad, cap, hv, hcap, hr.imp id fun ⟨g, off, h1, _, h2⟩ => ⟨g, off, h1, h2⟩⟩
  · cases hl
    have hv : [v] = [Value.slice none 0 0] := hT.1
    simp only [List.cons.injEq, and_true] at hv
    exact ⟨none, 0, hv, by simp, .inl rfl⟩
  · rename_i r q z wd
    have hz := eq_of_beq (show (z == sz) = true from hz)
    subst hz
    simp only [Option.map_eq_some_iff, Option.bind_eq_some_iff, hE] at hl
    obtain ⟨l0, ⟨c, hc, hl0⟩, rfl⟩ := hl
    have := seen_view h hT hc hl0 hE
    exact this
  · cases hl
theorem lenT_ok (h : Rel w RO Ls s a.tmps) {E : Env} (hE : E.A = re) {x : T} {v : Value} {L : Ly} (hT : TV w RO Ls x v L) {n : Nat} (hn : lenT E s x = some n) : ∃ ad cap, v = .slice ad n cap ∧ n ≤ cap ∧ (ad = none → n = 0) := by
  unfold lenT at hn
  split at hn
  · rename_i z l0
    cases hn
    obtain ⟨ad, cap, hv, hcap, hr⟩ := (show RC w RO (.ro z l0) [v] from hT.1)
    simp only [List.cons.injEq, and_true] at hv
    refine ⟨ad, cap, by rw [hE]; exact hv, by rw [hE]; exact hcap, fun e => ?_⟩
    rcases hr with hr | ⟨g, off, h1, _⟩
    · rw [hr, hE]; rfl
    · rw [e] at h1; cases h1
  · cases hn
    have hv : [v] = [Value.slice none 0 0] := hT.1
    simp only [List.cons.injEq, and_true] at hv
    exact ⟨none, 0, hv, Nat.le_refl _, fun _ => rfl⟩
  · rename_i r q z wd
    obtain ⟨_, L0, L1, v1, h0, h1, hv, hw⟩ := hT
    simp only [List.cons.injEq, and_true] at hv
    subst hv
    cases wd with
    | some x =>
      obtain ⟨o, m⟩ := x
      simp only [Option.some.injEq] at hn
      subst hn
      obtain ⟨_, _, ad, cap, hv, hcap, hr⟩ := hw
      refine ⟨ad, cap, hv, hcap, fun e => ?_⟩
      rcases hr with hr | ⟨g, off, m', c', _, h2, _⟩
      · exact hr
      · rw [e] at h2; cases h2
    | none =>
      simp only [Option.bind_eq_some_iff, hE] at hn
      obtain ⟨c, hc, hn⟩ := hn
      have hct : cellT c = true := by
        unfold lenOf at hn
        split at hn <;> first | rfl | cases hn
      obtain ⟨v', hTC⟩ := h.place hc hct h0 h1
      unfold lenOf at hn
      split at hn
      · rename_i fl z2 l0
        simp only [Option.some.injEq] at hn
        obtain ⟨_, ⟨h3, _, h2⟩ | ⟨g, cap, cur, e, _, hL, _, hle, _, _, _⟩⟩ := hTC
        · subst h2; subst h3; rw [hE] at hn; simp [re] at hn; subst hn; exact ⟨none, 0, hw, Nat.le_refl _, fun _ => rfl⟩
        · subst hL; rw [hE] at hn; simp [re] at hn; subst hn; exact ⟨_, cap, hw, hle, fun e => by cases e⟩
      · rename_i z2 l0
        simp only [Option.some.injEq] at hn
        subst hn
        obtain ⟨_, g, cap, cur, e, cs, _, hL, _, hle, _⟩ := hTC
        subst hL; exact ⟨_, cap, hw, hle, fun e => by cases e⟩
      · rename_i z2 l0
        simp only [Option.some.injEq] at hn
        rw [hE] at hn; simp [re] at hn; subst hn
        have hb := viewV_bar hw
        rcases content_ok (sz := z2) (l := l0) hTC (by simp [listOf]) with ⟨hL, rfl⟩ | ⟨g, off, cap, hL, hcap, _⟩ | hL
        · subst hL; exact ⟨none, 0, hw, Nat.le_refl _, fun _ => rfl⟩
        · rcases hL with hL | hL <;> (subst hL; exact ⟨_, cap, hw, hcap, fun e => by cases e⟩)
        · subst hL; simp [Ly.bar] at hb
      · cases hn
  · cases hn
end
end Go.Os
set_option linter.unusedVariables false
namespace Go.Os
section
variable {P : Program} {w : World} {RO : Nat → Prop} {Ls : List Ly} {a : Act} {s : List T}
theorem bytes_seen {g : Nat} : ∀ {l : List R} {off : Nat}, l.all isU8 = true → RCE w RO 1 g off l → ∃ ns : List Int, (∀ j v, (ns.map (Value.int .u8))[j]? = some v → w.cell? ⟨g, off + j, none⟩ = some v) ∧ ns.length = l.length ∧ (∀ r, l.foldl pushU8 r = ns.foldl (fun r n => r.push (UInt8.ofNat n.toNat)) r)
  | [], off, _, _ => ⟨[], by simp, rfl, fun _ => rfl⟩
  | x :: l, off, h, hr => by
    simp only [List.all_cons, Bool.and_eq_true] at h
    cases x with
    | i k n =>
      cases k with
      | u8 =>
        obtain ⟨⟨vs, h1, h2, h3⟩, h4⟩ := hr
        have hv : vs = [.int .u8 n] := h3
        subst hv
        obtain ⟨ns, h5, h6, h7⟩ := bytes_seen (off := off + 1) h.2 h4
        refine ⟨n :: ns, fun j v hj => ?_, by simp [h6], fun r => h7 _⟩
        cases j with
        | zero =>
          have := h2 0 v (by simpa using hj)
          simpa using this
        | succ j =>
          have := h5 j v (by simpa using hj)
          rwa [show off + 1 + j = off + (j + 1) by omega] at this
      | _ => simp [isU8] at h
    | _ => simp [isU8] at h
theorem op_conv {o : Oper} {t1 t2 : TypeId} {x : Operand} (ho : o.op = .convert t1 t2 x) (h : Rel w RO Ls s a.tmps) {E : Env} (hE : E.A = re) (hti : E.ti = tiOf P)
    {r : R} (he : evConv E s t1 t2 (opd s x) = some r) : OpOK P w RO Ls a o (putD s o.dst (.r r)) := by
  obtain ⟨Lx, hTx, _⟩ := opd_ok h x
  unfold evConv at he
  rw [hti] at he
  simp only [Option.bind_eq_some_iff] at he
  obtain ⟨ts, hts, ty, hty, he⟩ := he
  obtain ⟨_, d1, _, hd1, _, _, _, hdesc1, _⟩ := ti_info hts
  obtain ⟨i, d, hi, hd, _, _, _, hdesc, _⟩ := ti_info hty
  split at he
  · rename_i k hk
    simp only [Option.map_eq_some_iff] at he
    obtain ⟨⟨k0, n⟩, hn, rfl⟩ := he
    have hdk : d = .int k := by
      unfold TI.int? at hk
      rw [hdesc] at hk
      cases d <;> simp_all
    subst hdk
    have hv := intT_ok hTx hn
    refine opV (L := .no) (v := .int k (k.wrap n)) h ?_ (TV_R rfl (by rw [hE]; rfl)) rfl
    simp only [execOp, ho, hv, convert, Sem.run_bind, run_underlying hd1, run_underlying hd, Result.andThen_ok, Conv.intToInt, Sem.run_pure]
  · split at he
    · rename_i hk hq
      simp only [Bool.and_eq_true] at hq
      obtain ⟨hq1, hq2⟩ := hq
      simp only [Option.bind_eq_some_iff] at he
      obtain ⟨l, hl, he⟩ := he
      split at he
      · rename_i hz
        simp only [Bool.and_eq_true] at hz
        obtain ⟨hz1, hz2⟩ := hz
        cases he
        have hds : d = .string := by
          unfold TI.isStr at hq1
          rw [hdesc] at hq1
          cases d <;> simp_all
        subst hds
        unfold isBytes at hq2
        split at hq2
        · rename_i te hte
          simp only [Option.bind_eq_some_iff] at hte
          obtain ⟨e, he1, he2⟩ := hte
          obtain rfl := elem_desc hdesc1 he1
          rw [hti] at he2
          obtain ⟨_, d2, _, hd2, _, _, _, hdesc2, _⟩ := ti_info he2
          have hd2u : d2 = .int .u8 := by
            split at hq2
            · rename_i h8
              unfold TI.int? at h8
              rw [hdesc2] at h8
              cases d2 <;> simp_all
            · cases hq2
          subst hd2u
          rw [hE] at hz2 ⊢
          obtain ⟨ad, cap, hv, hcap, hs⟩ := elems_ok h hE hTx hl hz1
          have hrun : (execOp a.eval o).run P w = .ok (.value (.string (l.foldl pushU8 ByteArray.empty))) w := by
            rcases hs with rfl | ⟨g, off, had, hr⟩
            · cases ad with
              | none =>
                simp only [execOp, ho, hv, Sem.run_bind, run_convert_bytes_string w t1 t2 e _ _ _ hd1 hd2 hd, Conv.bytesToString, Sem.run_pure, Result.andThen_ok]
                rfl
              | some ad =>
                have hlc : (loadCells ad 0).run P w = .ok (([] : List Int).map (Value.int .u8)).toArray w := by simpa using run_loadCells_list (P := P) w ad [] (by simp)
                simp only [execOp, ho, hv, Sem.run_bind, run_convert_bytes_string w t1 t2 e _ _ _ hd1 hd2 hd, List.length_nil, run_bytesToString w ad 0 cap [] hlc, Sem.run_pure, Result.andThen_ok]
                rfl
            · subst had
              obtain ⟨ns, n1, n2, n3⟩ := bytes_seen (w := w) (RO := RO) (g := g) hz2 hr
              have hlc : (loadCells ⟨g, off, none⟩ l.length).run P w = .ok (ns.map (Value.int .u8)).toArray w := by
                have := run_loadCells_list (P := P) w ⟨g, off, none⟩ (ns.map (Value.int .u8)) (fun j v hj => by rw [Addr.add_lit]; exact n1 j v hj)
                rwa [List.length_map, n2] at this
              simp only [execOp, ho, hv, Sem.run_bind, run_convert_bytes_string w t1 t2 e _ _ _ hd1 hd2 hd, run_bytesToString w _ _ cap ns hlc, Sem.run_pure, Result.andThen_ok, n3]
          exact opV (L := .no) h hrun (TV_R rfl rfl) rfl
        · cases hq2
      · cases he
    · cases he
theorem slEl_ok {E : Env} (hti : E.ti = tiOf P) {t : TypeId} {te : TI} (h : slEl E t = some te) : ∃ e ie, P.underlying t = some (.slice e) ∧ tiOf P e = some te ∧ P.info? e = some ie ∧ te.sz = ie.size ∧ te.bytes = ie.bytes := by
  unfold slEl at h
  rw [hti] at h
  simp only [Option.bind_eq_some_iff] at h
  obtain ⟨ti, h1, e, h2, h3⟩ := h
  obtain ⟨i, d, hi, hd, _, _, _, hdesc, _⟩ := ti_info h1
  obtain rfl := elem_desc hdesc h2
  obtain ⟨ie, de, hie, _, _, hsz, hby, _, _⟩ := ti_info h3
  exact ⟨e, ie, hd, h3, hie, hsz, hby⟩
theorem bound_ok {E : Env} (hE : E.A = re) (h : Rel w RO Ls s a.tmps) {y : Option Operand} {n d k : Nat} (hb : boundOf E s y n d = some k) :
    (y = none ∧ k = d) ∨ ∃ x kk v, y = some x ∧ a.eval x = .int kk v ∧ 0 ≤ v ∧ v ≤ (n : Int) ∧ k = v.toNat := by
  unfold boundOf at hb
  cases y with
  | none => simp at hb; exact .inl ⟨rfl, hb.symm⟩
  | some x =>
    simp only [Option.bind_eq_some_iff, hE] at hb
    obtain ⟨⟨kk, v⟩, hv, hb⟩ := hb
    have hx := opd_int h hv
    simp only [re] at hb
    split at hb
    · rename_i hc
      cases hb
      exact .inr ⟨x, kk, v, rfl, hx, hc.1, hc.2, rfl⟩
    · cases hb
theorem run_slice {t e : TypeId} {ie : TypeInfo} (hd : P.underlying t = some (.slice e)) (hie : P.info? e = some ie) {ad : Option Addr} {n cap : Nat} {lo hi mx : Option Value} {l h m : Nat}
    (hm : (∃ k v, mx = some (.int k v) ∧ 0 ≤ v ∧ v ≤ (cap : Int) ∧ m = v.toNat) ∨ (mx = none ∧ m = cap))
    (hh : (∃ k v, hi = some (.int k v) ∧ 0 ≤ v ∧ v ≤ (m : Int) ∧ h = v.toNat) ∨ (hi = none ∧ mx = none ∧ h = n))
    (hl : (∃ k v, lo = some (.int k v) ∧ 0 ≤ v ∧ v ≤ (h : Int) ∧ l = v.toNat) ∨ (lo = none ∧ l = 0)) :
    (Instr.sliceAt t (.slice ad n cap) lo hi mx).run P w = .ok (.slice (if m = l then ad else ad.map (·.add (l * ie.size))) (h - l) (m - l)) w := by
  have sb : ∀ (x : Value) (y : Nat) (c : BoundsCode) (k : IntKind) (v : Int), x = .int k v → 0 ≤ v → v ≤ (y : Int) → (Instr.sliceBound x y c).run P w = .ok v.toNat w := by
    intro x y c k v hx h0 h1
    subst hx
    simp [Instr.sliceBound, asIntOf, h0, h1]
  have hb : (Instr.sliceBounds true n cap lo hi mx).run P w = .ok (l, h, m) w := by
    unfold Instr.sliceBounds
    rcases hm with ⟨km, vm, rfl, hm1, hm2, rfl⟩ | ⟨rfl, rfl⟩
    · rcases hh with ⟨kh, vh, rfl, hh1, hh2, rfl⟩ | ⟨_, hx, _⟩
      · rcases hl with ⟨kl, vl, rfl, hl1, hl2, rfl⟩ | ⟨rfl, rfl⟩
        · simp [sb _ _ _ _ _ rfl hm1 hm2, sb _ _ _ _ _ rfl hh1 hh2, sb _ _ _ _ _ rfl hl1 hl2]
        · simp [sb _ _ _ _ _ rfl hm1 hm2, sb _ _ _ _ _ rfl hh1 hh2]
      · cases hx
    · rcases hh with ⟨kh, vh, rfl, hh1, hh2, rfl⟩ | ⟨rfl, _, rfl⟩
      · rcases hl with ⟨kl, vl, rfl, hl1, hl2, rfl⟩ | ⟨rfl, rfl⟩
        · simp [sb _ _ _ _ _ rfl hh1 hh2, sb _ _ _ _ _ rfl hl1 hl2]
        · simp [sb _ _ _ _ _ rfl hh1 hh2]
      · rcases hl with ⟨kl, vl, rfl, hl1, hl2, rfl⟩ | ⟨rfl, rfl⟩
        · simp [sb _ _ _ _ _ rfl hl1 hl2]
        · simp
  simp [Instr.sliceAt, run_underlying hd, Instr.slice, hb, run_size hie]
theorem map_eval (x : Option Operand) : x.map a.eval = match x with | none => none | some y => some (a.eval y) := by cases x <;> rfl
theorem TV_view_mono {r : Nat} {q : Pth} {sz : Nat} {wd wd' : Option (Nat × Nat)} {v v' : Value} {L : Ly} (h : TV w RO Ls (.v r q sz wd) v L) (hm : ∀ L1, viewV L1 sz wd v → viewV L1 sz wd' v') : TV w RO Ls (.v r q sz wd') v' .no := by
  obtain ⟨_, L0, L1, v1, h0, h1, hv, hw⟩ := h
  simp only [List.cons.injEq, and_true] at hv
  subst hv
  exact ⟨rfl, L0, L1, v', h0, h1, rfl, hm L1 hw⟩
theorem seg_len {l : List R} {o n : Nat} (h : o + n ≤ l.length) : (re.seg l o n).length = n := by simp [re]; omega
theorem cut_ok {E : Env} (hE : E.A = re) (h : Rel w RO Ls s a.tmps) {x c : T} {L : Ly} {ad : Option Addr} {n cap l k cap' sz : Nat} (hT : TV w RO Ls x (.slice ad n cap) L) (hz : szOf x sz = true) (hn : lenT E s x = some n) (hk : l + k ≤ n) (hc' : k ≤ cap')
    (hc : cutT E x l k = some c) {ad' : Option Addr} (had : k = 0 ∨ ad' = ad.map (·.add (l * sz))) (hnil : ad = none → ad' = none ∧ cap = 0 → cap' = 0) (hnil' : ad = none → ad' = none) (hcap0 : cap' ≤ cap) : ∃ L', TV w RO Ls c (.slice ad' k cap') L' ∧ L'.bs = [] := by
  unfold cutT at hc
  split at hc
  · cases hc
    have hv : [Value.slice ad n cap] = [Value.slice none 0 0] := hT.1
    simp only [List.cons.injEq, Value.slice.injEq, and_true] at hv
    obtain ⟨rfl, rfl, rfl⟩ := hv
    have hk0 : k = 0 := by omega
    have hc0 : cap' = 0 := by omega
    subst hk0 hc0
    rw [hnil' rfl]
    exact ⟨.no, ⟨rfl, .inl rfl⟩, rfl⟩
  · rename_i z xs
    cases hc
    have hz := eq_of_beq (show (z == sz) = true from hz)
    subst hz
    obtain ⟨ad0, cap0, hv, hcap, hr⟩ := (show RC w RO (.ro z xs) [Value.slice ad n cap] from hT.1)
    simp only [List.cons.injEq, Value.slice.injEq, and_true] at hv
    obtain ⟨rfl, rfl, rfl⟩ := hv
    have hsl : (re.seg xs l k).length = k := seg_len hk
    refine ⟨.no, ⟨⟨ad', cap', ?_, ?_, ?_⟩, .inl rfl⟩, rfl⟩
    · rw [hE, hsl]
    · rw [hE, hsl]; exact hc'
    · rcases had with h0 | had
      · exact .inl (List.eq_nil_of_length_eq_zero (by rw [hE, hsl]; exact h0))
      · rcases hr with hr | ⟨g, off, h1, h2, h3⟩
        · exact .inl (by rw [hE, hr]; simp [re])
        · refine .inr ⟨g, off + l * z, ?_, h2, ?_⟩
          · rw [had, h1]; simp [Addr.add_lit]
          · rw [hE]; exact RCE_take k (RCE_drop l h3)
  · rename_i r q z wd
    have hz := eq_of_beq (show (z == sz) = true from hz)
    subst hz
    cases wd with
    | none =>
      simp only [Option.some.injEq] at hc; subst hc
      refine ⟨.no, TV_view_mono hT fun L1 hw => ?_, rfl⟩
      cases L1 with
      | bl g off m cp cs =>
        have hw' : Value.slice ad n cap = .slice (some ⟨g, off, none⟩) m cp := hw
        simp only [Value.slice.injEq] at hw'
        obtain ⟨rfl, rfl, rfl⟩ := hw'
        refine ⟨by simp, by simp, ad', cap', rfl, hc', ?_⟩
        rcases had with h0 | had
        · exact .inl h0
        · exact .inr ⟨g, off, n, cap, .inr ⟨cs, rfl⟩, by rw [had]; simp [Addr.add_lit], hk⟩
      | fz g off m cp =>
        have hw' : Value.slice ad n cap = .slice (some ⟨g, off, none⟩) m cp := hw
        simp only [Value.slice.injEq] at hw'
        obtain ⟨rfl, rfl, rfl⟩ := hw'
        refine ⟨by simp, by simp, ad', cap', rfl, hc', ?_⟩
        rcases had with h0 | had
        · exact .inl h0
        · exact .inr ⟨g, off, n, cap, .inl rfl, by rw [had]; simp [Addr.add_lit], hk⟩
      | nl =>
        have hw' : Value.slice ad n cap = .slice none 0 0 := hw
        simp only [Value.slice.injEq] at hw'
        obtain ⟨rfl, rfl, rfl⟩ := hw'
        exact ⟨by simp, by simp, ad', cap', rfl, hc', .inl (by omega)⟩
      | no => exact hw.elim
      | ag cs => exact hw.elim
    | some y =>
      obtain ⟨o, m⟩ := y
      simp only [Option.some.injEq] at hc; subst hc
      refine ⟨.no, TV_view_mono hT fun L1 hw => ?_, rfl⟩
      obtain ⟨h1, h2, ad0, cap0, hv, hcap, hr⟩ := hw
      simp only [Value.slice.injEq] at hv
      obtain ⟨rfl, rfl, rfl⟩ := hv
      refine ⟨h1, h2, ad', cap', rfl, hc', ?_⟩
      rcases had with h0 | had
      · exact .inl h0
      · rcases hr with hr | ⟨g, off, m', cp, h3, h4, h5⟩
        · exact .inl (by omega)
        · refine .inr ⟨g, off, m', cp, h3, ?_, ?_⟩
          · have ho : addOff E.A o l = o + l := by
              rw [hE]
              cases o with
              | zero => simp [addOff]
              | succ o => cases l with
                | zero => simp [addOff]
                | succ l => simp [addOff, re]
            rw [had, h4, ho]
            simp [Addr.add_lit, Nat.add_mul, Nat.add_assoc]
          · have ho : addOff E.A o l = o + l := by
              rw [hE]
              cases o with
              | zero => simp [addOff]
              | succ o => cases l with
                | zero => simp [addOff]
                | succ l => simp [addOff, re]
            rw [ho]; omega
  · cases hc
theorem op_slice {o : Oper} {t : TypeId} {x : Operand} {lo hi mx : Option Operand} (ho : o.op = .slice t x lo hi mx) {E : Env} (hE : E.A = re) (hti : E.ti = tiOf P) (h : Rel w RO Ls s a.tmps) {c : T}
    (he : evSlice E s t (opd s x) lo hi mx = some c) : OpOK P w RO Ls a o (putD s o.dst c) := by
  unfold evSlice at he
  simp only [Option.bind_eq_some_iff] at he
  obtain ⟨te, hte, he⟩ := he
  obtain ⟨e, ie, hd, _, hie, hsz, _⟩ := slEl_ok hti hte
  split at he
  · cases he
  · rename_i hz
    simp only [Option.bind_eq_some_iff] at he
    obtain ⟨n, hn, m, hm, hh', hh, l, hl, he⟩ := he
    obtain ⟨L, hT, hb⟩ := opd_ok h x
    obtain ⟨ad, cap, hv, hncap, hadn⟩ := lenT_ok h hE hT hn
    have hm' := bound_ok hE h hm
    have hh'' := bound_ok hE h hh
    have hl' := bound_ok hE h hl
    have run : ∀ m', (mx.isSome = true → m' = m) → (mx = none → m' = cap) → (mx.isSome = true → hi.isSome = true) →
        (execOp a.eval o).run P w = .ok (.value (.slice (if m' = l then ad else ad.map (·.add (l * ie.size))) (hh' - l) (m' - l))) w := by
      intro m' hm1 hm2 hm3
      have := run_slice (w := w) (ad := ad) (n := n) (cap := cap) (lo := lo.map a.eval) (hi := hi.map a.eval) (mx := mx.map a.eval) (l := l) (h := hh') (m := m') hd hie
        (by
          rcases hm' with ⟨rfl, _⟩ | ⟨y, k, v, rfl, hy, h0, h1, h2⟩
          · exact .inr ⟨rfl, hm2 rfl⟩
          · exact .inl ⟨k, v, by simp [hy], h0, by omega, by rw [hm1 rfl, h2]⟩)
        (by
          rcases hh'' with ⟨rfl, h1⟩ | ⟨y, k, v, rfl, hy, h0, h1, h2⟩
          · refine .inr ⟨rfl, ?_, h1⟩
            cases mx with
            | none => rfl
            | some y => simp at hm3
          · refine .inl ⟨k, v, by simp [hy], h0, ?_, h2⟩
            rcases hm' with ⟨rfl, h3⟩ | ⟨y', k', v', rfl, _, _, _, h3⟩
            · rw [hm2 rfl]; omega
            · rw [hm1 rfl]; exact h1)
        (by
          rcases hl' with ⟨rfl, h1⟩ | ⟨y, k, v, rfl, hy, h0, h1, h2⟩
          · exact .inr ⟨rfl, h1⟩
          · exact .inl ⟨k, v, by simp [hy], h0, h1, h2⟩)
      simp [execOp, ho, hv, this]
    have hlh : l ≤ hh' := by
      rcases hl' with ⟨_, h1⟩ | ⟨_, _, v, _, _, h0, h1, h2⟩
      · omega
      · omega
    have hmn : m ≤ n := by
      rcases hm' with ⟨_, h1⟩ | ⟨_, _, v, _, _, h0, h1, h2⟩
      · omega
      · omega
    have hhn : hh' ≤ n := by
      rcases hh'' with ⟨_, h1⟩ | ⟨_, _, v, _, _, h0, h1, h2⟩
      · omega
      · omega
    have cutCase : ∀ m', (mx.isSome = true → m' = m) → (mx = none → m' = cap) → (mx.isSome = true → hi.isSome = true) → cutT E (opd s x) l (E.A.sub hh' l) = some c → OpOK P w RO Ls a o (putD s o.dst c) := by
      intro m' hm1 hm2 hm3 hc
      have hsub : E.A.sub hh' l = hh' - l := by rw [hE]; rfl
      rw [hsub] at hc
      have hhm : hh' ≤ m' ∧ m' ≤ cap := by
        rcases hm' with ⟨h1, h2⟩ | ⟨y, k, v, h1, _, h0, h3, h2⟩
        · rw [hm2 h1]; omega
        · rw [hm1 (by rw [h1]; rfl)]
          refine ⟨?_, by omega⟩
          rcases hh'' with ⟨h4, h5⟩ | ⟨_, _, v', _, _, h4, h5, h6⟩
          · have := hm3 (by rw [h1]; rfl); rw [h4] at this; cases this
          · omega
      rw [hv] at hT
      obtain ⟨L', h1, h2⟩ := cut_ok (sz := te.sz) hE h hT hz hn (l := l) (k := hh' - l) (cap' := m' - l) (by omega) (by omega) hc
        (ad' := if m' = l then ad else ad.map (·.add (l * ie.size))) (by
          by_cases hml : m' = l
          · exact .inl (by omega)
          · rw [if_neg hml, hsz]; exact .inr rfl) (fun e ⟨_, h0⟩ => by omega) (fun e => by rw [e]; simp) (by omega)
      exact opV h (run m' hm1 hm2 hm3) h1 h2
    split at he
    · cases he
      have := run cap (by simp) (fun _ => rfl) (by simp)
      have h0 : l = 0 := by rcases hl' with ⟨_, h1⟩ | ⟨_, _, _, h1, _⟩
                            · exact h1
                            · cases h1
      have h1 : hh' = n := by rcases hh'' with ⟨_, h1⟩ | ⟨_, _, _, h1, _⟩
                              · exact h1
                              · cases h1
      rw [h0, h1] at this
      refine opV h this ?_ hb
      have : Value.slice (if cap = 0 then ad else ad.map (·.add (0 * ie.size))) (n - 0) (cap - 0) = .slice ad n cap := by
        simp only [Nat.zero_mul, Nat.sub_zero, Value.slice.injEq, and_true]
        split
        · rfl
        · cases ad <;> simp [Addr.add]
      rw [this, ← hv]; exact hT
    · cases he
    · rename_i h1 h2
      cases hmx : mx with
      | none => exact cutCase cap (by simp [hmx]) (fun _ => rfl) (by simp [hmx]) he
      | some y =>
        refine cutCase m (fun _ => rfl) (by simp [hmx]) (fun _ => ?_) he
        cases hhi : hi with
        | some _ => rfl
        | none => first | exact absurd hmx (h1 y hhi) | exact absurd hmx (h2 y hhi) | exact (h1 y hhi hmx).elim
end
end Go.Os
set_option linter.unusedVariables false
namespace Go.Os
section
variable {P : Program} {w : World} {RO : Nat → Prop} {Ls : List Ly} {a : Act} {s : List T}
theorem re_addOff (o i : Nat) : addOff re o i = o + i := by
  cases o with
  | zero => simp [addOff]
  | succ o => cases i with
    | zero => simp [addOff]
    | succ i => simp [addOff, re]
theorem run_indexSlice {t e : TypeId} {ie : TypeInfo} (hd : P.underlying t = some (.slice e)) (hie : P.info? e = some ie) {g off n cap : Nat} {k : IntKind} {i : Int} (h0 : 0 ≤ i) (h1 : i < (n : Int)) :
    (Instr.indexAt t (.slice (some ⟨g, off, none⟩) n cap) (.int k i)).run P w = .ok (.pointer (some ⟨g, off + i.toNat * ie.size, none⟩)) w := by
  simp [Instr.indexAt, asIntOf, run_underlying hd, h0, h1, run_size hie, Addr.add_lit]
theorem run_indexArr {t e : TypeId} {ie : TypeInfo} {n : Nat} (hd : P.underlying t = some (.array n e)) (hie : P.info? e = some ie) {g off : Nat} {k : IntKind} {i : Int} (h0 : 0 ≤ i) (h1 : i < (n : Int)) :
    (Instr.indexAt t (.pointer (some ⟨g, off, none⟩)) (.int k i)).run P w = .ok (.pointer (some ⟨g, off + i.toNat * ie.size, none⟩)) w := by
  simp [Instr.indexAt, asIntOf, run_underlying hd, h0, h1, run_size hie, Addr.add_lit, Instr.sureAddr]
theorem elAddr_ok {E : Env} (hE : E.A = re) (hti : E.ti = tiOf P) (h : Rel w RO Ls s a.tmps) {t : TypeId} {te : TI} (hte : slEl E t = some te) {x c : T} {v : Value} {L : Ly} (hT : TV w RO Ls x v L) {k : IntKind} {n : Int}
    (hc : elAddr E s te x n = some c) : ∃ v', (Instr.indexAt t v (.int k n)).run P w = .ok v' w ∧ TV w RO Ls c v' .no := by
  obtain ⟨e, ie, hd, _, hie, hsz, _⟩ := slEl_ok hti hte
  unfold elAddr at hc
  split at hc
  · cases hc
  · rename_i hz
    split at hc
    · rename_i z l
      simp only [Option.bind_eq_some_iff, Option.map_eq_some_iff, hE] at hc
      obtain ⟨i, hi, y, hy, rfl⟩ := hc
      obtain ⟨h0, h1, rfl⟩ := re_ix hi
      have hz := eq_of_beq (show (z == te.sz) = true from hz)
      subst hz
      obtain ⟨ad, cap, hv, hcap, hr⟩ := (show RC w RO (.ro te.sz l) [v] from hT.1)
      simp only [List.cons.injEq, and_true] at hv
      subst hv
      rcases hr with hr | ⟨g, off, rfl, hg, hR⟩
      · subst hr; simp [re] at hy
      · have h1' : n < (l.length : Int) := h1
        obtain ⟨vs, h2, h3, h4⟩ := RCE_get hR (show l[n.toNat]? = some y from hy)
        refine ⟨_, run_indexSlice hd hie h0 h1', ?_⟩
        refine ⟨rfl, g, off + n.toNat * te.sz, by rw [hsz]; rfl, hg, vs, fun j u hj => ?_, RC_cells h4⟩
        have := h3 j u hj
        rwa [← Nat.add_assoc] at this
    · rename_i r q z wd
      simp only [Option.bind_eq_some_iff, Option.map_eq_some_iff, hE] at hc
      obtain ⟨m, hm, i, hi, rfl⟩ := hc
      obtain ⟨h0, h1, rfl⟩ := re_ix hi
      have hz := eq_of_beq (show (z == te.sz) = true from hz)
      subst hz
      obtain ⟨ad, cap, hv, hcap, hadn⟩ := lenT_ok h hE hT hm
      obtain ⟨_, L0, L1, v1, hL0, hL1, hv1, hw⟩ := hT
      simp only [List.cons.injEq, and_true] at hv1
      subst hv1
      have hmpos : m ≠ 0 := by omega
      have key : ∃ g off n' cap' o, (L1 = .fz g off n' cap' ∨ ∃ cs, L1 = .bl g off n' cap' cs) ∧ ad = some ⟨g, off + o * te.sz, none⟩ ∧ o = wdOff wd := by
        cases wd with
        | none =>
          cases L1 with
          | bl g off n' cap' cs => rw [show v = _ from hw] at hv; cases hv; exact ⟨g, off, _, _, 0, .inr ⟨cs, rfl⟩, by simp, rfl⟩
          | fz g off n' cap' => rw [show v = _ from hw] at hv; cases hv; exact ⟨g, off, _, _, 0, .inl rfl, by simp, rfl⟩
          | nl => rw [show v = _ from hw] at hv; cases hv; exact absurd rfl hmpos
          | no => exact hw.elim
          | ag cs => exact hw.elim
        | some y =>
          obtain ⟨o, m'⟩ := y
          obtain ⟨_, _, ad', cap0, hv', _, hr⟩ := hw
          rw [hv'] at hv; cases hv
          rcases hr with hr | ⟨g, off, n', cap', h2, h3, _⟩
          · exact absurd hr hmpos
          · exact ⟨g, off, n', cap', o, h2, h3, rfl⟩
      obtain ⟨g, off, n', cap', o, hLL, rfl, hoo⟩ := key
      subst hv
      refine ⟨_, run_indexSlice hd hie h0 h1, ?_⟩
      have had : ∀ j, adAt L0 (q ++ [.e j te.sz 0]) = some (g, off + (j * te.sz + 0)) := by
        intro j
        rw [adAt_append _ _ _ (by simp), hL1]
        rcases hLL with hLL | ⟨cs, hLL⟩ <;> (rw [hLL]; rfl)
      cases wd with
      | none =>
        have hoo : o = 0 := hoo
        subst hoo
        exact ⟨rfl, L0, g, _, hL0, had _, by rw [hsz]; simp⟩
      | some y =>
        obtain ⟨o', m'⟩ := y
        have hoo : o = o' := hoo
        subst hoo
        refine ⟨rfl, L0, g, _, hL0, had _, ?_⟩
        rw [re_addOff, hsz, Nat.add_mul]; simp [Nat.add_assoc]
    · cases hc
theorem op_indexAddr {o : Oper} {t : TypeId} {x ix : Operand} (ho : o.op = .indexAddr t x ix) {E : Env} (hE : E.A = re) (hti : E.ti = tiOf P) (h : Rel w RO Ls s a.tmps) {c : T}
    (he : evIndexAddr E s t (opd s x) (opd s ix) = some c) : OpOK P w RO Ls a o (putD s o.dst c) := by
  unfold evIndexAddr at he
  simp only [Option.bind_eq_some_iff] at he
  obtain ⟨⟨k, n⟩, hn, he⟩ := he
  have hnv := opd_int h hn
  obtain ⟨L, hT, hb⟩ := opd_ok h x
  cases hte : slEl E t with
  | some te =>
    simp only [hte] at he
    obtain ⟨v', h1, h2⟩ := elAddr_ok (k := k) hE hti h hte hT he
    exact opV h (by simp [execOp, ho, hnv, h1]) h2 rfl
  | none =>
    simp only [hte, Option.bind_eq_some_iff, hti, hE] at he
    obtain ⟨ti, hti', ar, har, te, hte', j, hj, he⟩ := he
    obtain ⟨i, d, hi, hd, _, _, _, hdesc, _⟩ := ti_info hti'
    obtain ⟨ie, de, hie, _, _, hsz, _, _, _⟩ := ti_info hte'
    obtain rfl := arr_desc hdesc har
    obtain ⟨h0, h1, rfl⟩ := re_ix hj
    have hm : re.mul n.toNat te.sz = n.toNat * ie.size := by rw [hsz]; rfl
    split at he
    · rename_i r q hx
      cases he
      rw [hx] at hT
      obtain ⟨_, L0, g, ofs, hL0, had, hv⟩ := hT
      simp only [List.cons.injEq, and_true] at hv
      refine opV (v := .pointer (some ⟨g, ofs + n.toNat * ie.size, none⟩)) (L := .no) h (by simp [execOp, ho, hnv, hv, run_indexArr hd hie h0 h1]) ?_ rfl
      exact ⟨rfl, L0, g, _, hL0, adAt_stepBy q L0 had, by rw [hm]⟩
    · rename_i l ofs hx
      cases he
      rw [hx] at hT
      obtain ⟨_, g, off, hv, hg, hR⟩ := hT
      simp only [List.cons.injEq, and_true] at hv
      refine opV (v := .pointer (some ⟨g, off + ofs + n.toNat * ie.size, none⟩)) (L := .no) h (by simp [execOp, ho, hnv, hv, run_indexArr hd hie h0 h1]) ?_ rfl
      exact ⟨rfl, g, off, by rw [re_addOff, hm, Nat.add_assoc], hg, hR⟩
    · cases he
theorem re_mkn {n : Int} {b m : Nat} (h : re.mkn n b = some m) : 0 ≤ n ∧ n ≤ 70368744177664 ∧ n * b ≤ 70368744177664 ∧ m = n.toNat := by
  simp only [re] at h
  split at h
  · rename_i hc; cases h; exact ⟨hc.1, hc.2.1, hc.2.2, rfl⟩
  · cases h
theorem made_get (z : Array Value) (n i : Nat) (h : i < n) : (madeCells z n)[i]? = some (z[i % z.size]!) := by
  simp [madeCells, h]
theorem RCE_made {w' : World} {e : TypeId} {z : Array Value} {sz : Nat} (hpos : 0 < sz) {x : R} (hz : z.size = sz) (hx : RC w' RO x z.toList) (g total : Nat) (hc : ∀ j, w'.cell? ⟨g, j, none⟩ = (madeCells z total)[j]?) :
    ∀ (m k : Nat), (k + m) * sz ≤ total → RCE w' RO sz g (k * sz) (List.replicate m x)
  | 0, k, _ => by simp [RCE]
  | m + 1, k, hk => by
    have e1 : (k + (m + 1)) * sz = k * sz + (m + 1) * sz := Nat.add_mul _ _ _
    have e2 : (m + 1) * sz = m * sz + sz := by rw [Nat.add_mul]; omega
    refine ⟨⟨z.toList, by simpa using hz, fun j v hj => ?_, hx⟩, ?_⟩
    · have hjs : j < sz := by have := (List.getElem?_eq_some_iff.1 hj).1; simpa [hz] using this
      rw [hc, made_get _ _ _ (by omega), hz]
      have : (k * sz + j) % sz = j := by rw [Nat.add_comm, Nat.add_mul_mod_self_right]; exact Nat.mod_eq_of_lt hjs
      rw [this]
      have hv : z[j]? = some v := by simpa using hj
      rw [Array.getElem!_eq_getD, Array.getD_eq_getD_getElem?, hv]; rfl
    · have := RCE_made (e := e) hpos hz hx g total hc m (k + 1) (by rw [show k + 1 + m = k + (m + 1) by omega]; exact hk)
      rwa [show (k + 1) * sz = k * sz + sz by rw [Nat.add_mul]; omega] at this
theorem zeroEl_ok {e : TypeId} {te : TI} (hte : tiOf P e = some te) {x : R} (hz : zeroEl te = some x) : ∃ v, (∃ i, P.info? e = some i ∧ i.zero = some v) ∧ v.cells.size = te.sz ∧ ∀ w RO, RC w RO x v.cells.toList := by
  obtain ⟨i, d, hi, hd, hag, hsz, _, _, hzero⟩ := ti_info hte
  unfold zeroEl at hz
  simp only [Option.bind_eq_some_iff] at hz
  obtain ⟨l, hl, hz⟩ := hz
  rw [hzero] at hl
  simp only [Option.bind_eq_some_iff] at hl
  obtain ⟨v, hv, hvs⟩ := hl
  split at hz
  · cases hz
  · rename_i hlen
    have hlen := of_decide_eq_true hlen
    have hR : ∀ w RO, RCL w RO l v.cells.toList := fun w RO => ofVs_ok hvs
    have hsz' : v.cells.size = te.sz := by
      have := RCL_len (hR default fun _ => False)
      simpa [hlen] using this
    refine ⟨v, ⟨i, hi, hv⟩, hsz', fun w RO => ?_⟩
    split at hz
    · cases hz; exact hR w RO
    · split at hz
      · rename_i c
        cases hz
        obtain ⟨v0, vs', h1, h2, h3⟩ := hR w RO
        have : vs' = [] := h3
        rw [h1, this]; exact h2
      · cases hz
theorem op_make {o : Oper} {t : TypeId} {x y : Operand} (ho : o.op = .makeSlice t x y) {E : Env} (hE : E.A = re) (hti : E.ti = tiOf P) (h : Rel w RO Ls s a.tmps) {c : T} (he : evMake E t (opd s x) (opd s y) = some c) :
    OpOK P w RO Ls a o (putD s o.dst c) := by
  unfold evMake at he
  simp only [Option.bind_eq_some_iff, hE] at he
  obtain ⟨te, hte, ⟨k, n⟩, hn, ⟨kc, nc⟩, hc, z, hz, mc, hmc, m, hm, he⟩ := he
  obtain ⟨e, ie, hd, hte', hie, hsz, hby⟩ := slEl_ok hti hte
  obtain ⟨h0, h1, h2, rfl⟩ := re_mkn hmc
  simp only at h0 h1 h2 hm
  have hm' : 0 ≤ n ∧ n ≤ (nc.toNat : Int) ∧ m = n.toNat := by
    simp only [re] at hm
    split at hm
    · rename_i hh; cases hm; exact ⟨hh.1, hh.2, rfl⟩
    · cases hm
  obtain ⟨h3, h4, rfl⟩ := hm'
  have hnv := opd_int h hn
  have hcv := opd_int h hc
  obtain ⟨v, ⟨i, hi, hv⟩, hvs, hR⟩ := zeroEl_ok hte' hz
  rw [hie] at hi; cases hi
  split at he
  · cases he
  · rename_i hne
    simp only [Option.some.injEq] at he; subst he
    have hpos : 0 < te.sz := Nat.pos_of_ne_zero hne
    have hr := run_make (P := P) w t e ie v hd hie hv k kc n nc h3 (by omega) (by rw [← hby, Int.mul_comm]; omega) (by omega)
    have hN := New.alloc w (.cells (madeCells v.cells (nc.toNat * ie.size)) e)
    refine opD (v := .slice (some ⟨w.heap.size, 0, none⟩) n.toNat nc.toNat) (L := .bl w.heap.size 0 n.toNat nc.toNat []) h (by simp [execOp, ho, hnv, hcv, hr]) hN ?_ (by simp [Ly.bs, Ly.bsL]) (by simp [Ly.bs, Ly.bsL])
    refine ⟨hpos, .inr ⟨w.heap.size, nc.toNat, madeCells v.cells (nc.toNat * ie.size), e, ?_, ?_, heap_alloc_new w _, ?_, ?_, ?_, ?_⟩⟩
    · simp [re]
    · simp [re]
    · simp only [re, List.length_replicate]; omega
    · simp only [maxLen]; omega
    · rw [size_madeCells, hsz]
    · have := RCE_made (w' := w.alloc (.cells (madeCells v.cells (nc.toNat * ie.size)) e)) (RO := RO) (e := e) hpos hvs (hR _ _) w.heap.size (nc.toNat * ie.size) (fun j => by rw [cell_new]) n.toNat 0
        (by rw [← hsz, Nat.zero_add]; exact Nat.mul_le_mul_right _ (by omega))
      simpa [re] using this
theorem op_len {o : Oper} {t : TypeId} {x : Operand} {c : Call} (ho : o.op = .call c) (hc : c.callee = .builtin .len) (ha : c.args.toList = [x]) (htys : c.argTypes.toList = [t]) {E : Env} (hE : E.A = re) (hti : E.ti = tiOf P)
    (h : Rel w RO Ls s a.tmps) {r : R} (he : evLen E s t (opd s x) = some r) : OpOK P w RO Ls a o (putD s o.dst (.r r)) := by
  obtain ⟨L, hT, hb⟩ := opd_ok h x
  have hargs : c.args = #[x] := by have := congrArg List.toArray ha; simpa using this
  have htypes : c.argTypes = #[t] := by have := congrArg List.toArray htys; simpa using this
  obtain ⟨callee, args, argTypes⟩ := c
  simp only at hc hargs htypes
  subst hc hargs htypes
  unfold evLen at he
  rw [hti] at he
  simp only [Option.bind_eq_some_iff] at he
  obtain ⟨ti, hti', he⟩ := he
  obtain ⟨i, d, hi, hd, _, _, _, hdesc, _⟩ := ti_info hti'
  have fin : ∀ m : Nat, r = .i .i64 m → (Builtin.len_ #[t] o.type #[a.eval x]).run P w = .ok (goInt m) w → OpOK P w RO Ls a o (putD s o.dst (.r r)) := by
    intro m hr hrun
    subst hr
    exact opV (L := .no) h (by simp [execOp, ho, resolve, invoke, builtin, hrun]; rfl) (TV_R rfl rfl) rfl
  cases har : ti.arr? with
  | some ar =>
    simp only [har, Option.some.injEq] at he
    obtain rfl := arr_desc hdesc har
    exact fin ar.1 (by rw [← he, hE]; rfl) (by simp [Builtin.len_, run_underlying hd])
  | none =>
    simp only [har] at he
    cases hel : ti.elem? with
    | some e =>
      simp only [hel, Option.map_eq_some_iff] at he
      obtain ⟨n, hn, he⟩ := he
      obtain rfl := elem_desc hdesc hel
      obtain ⟨ad, cap, hv, _, _⟩ := lenT_ok h hE hT hn
      exact fin n (by rw [← he, hE]; rfl) (by rw [hv]; simp [Builtin.len_, run_underlying hd])
    | none =>
      simp only [hel] at he
      split at he
      · rename_i y hy
        split at he
        · rename_i hs
          cases he
          have hds : d = .string := by
            unfold TI.isStr at hs
            rw [hdesc] at hs
            cases d <;> simp_all
          subst hds
          rw [hy] at hT
          have hv : [a.eval x] = [Value.string y] := hT.1
          simp only [List.cons.injEq, and_true] at hv
          exact fin y.size (by rw [hE]; rfl) (by rw [hv]; simp [Builtin.len_, run_underlying hd])
        · cases he
      · cases he
end
end Go.Os
set_option linter.unusedVariables false
namespace Go.Os
section
variable {P : Program} {w : World} {RO : Nat → Prop} {Ls : List Ly} {a : Act} {s : List T}
theorem foldGo_min (h : Rel w RO Ls s a.tmps) {k : IntKind} : ∀ (l : List Operand) (x : Int) (t : T), foldGo re.mn k x (l.map (opd s)) = some t →
    ∃ y, t = .r (.i k y) ∧ ((l.map a.eval).foldlM Builtin.min2 (.int k x)).run P w = .ok (.int k y) w
  | [], x, t, ht => by cases ht; exact ⟨x, rfl, rfl⟩
  | o :: l, x, t, ht => by
    simp only [List.map_cons, foldGo, Option.bind_eq_some_iff] at ht
    obtain ⟨⟨k', y⟩, hy, ht⟩ := ht
    have hv := opd_int h hy
    obtain ⟨z, h1, h2⟩ := foldGo_min h l _ t ht
    refine ⟨z, h1, ?_⟩
    simp only [List.map_cons, List.foldlM_cons, Sem.run_bind, hv, Builtin.min2, Sem.run_pure, Result.andThen_ok]
    exact h2
theorem foldGo_max (h : Rel w RO Ls s a.tmps) {k : IntKind} : ∀ (l : List Operand) (x : Int) (t : T), foldGo re.mx k x (l.map (opd s)) = some t →
    ∃ y, t = .r (.i k y) ∧ ((l.map a.eval).foldlM Builtin.max2 (.int k x)).run P w = .ok (.int k y) w
  | [], x, t, ht => by cases ht; exact ⟨x, rfl, rfl⟩
  | o :: l, x, t, ht => by
    simp only [List.map_cons, foldGo, Option.bind_eq_some_iff] at ht
    obtain ⟨⟨k', y⟩, hy, ht⟩ := ht
    have hv := opd_int h hy
    obtain ⟨z, h1, h2⟩ := foldGo_max h l _ t ht
    refine ⟨z, h1, ?_⟩
    simp only [List.map_cons, List.foldlM_cons, Sem.run_bind, hv, Builtin.max2, Sem.run_pure, Result.andThen_ok]
    exact h2
theorem op_min {o : Oper} {c : Call} (ho : o.op = .call c) (hc : c.callee = .builtin .min) {E : Env} (hE : E.A = re) (h : Rel w RO Ls s a.tmps) {t : T}
    (he : foldMM E.A.mn (c.args.toList.map (opd s)) = some t) : OpOK P w RO Ls a o (putD s o.dst t) := by
  obtain ⟨callee, args, argTypes⟩ := c
  simp only at hc; subst hc
  rw [hE] at he
  unfold foldMM at he
  cases hl : args.toList with
  | nil => simp [hl] at he
  | cons x l =>
    simp only [hl, List.map_cons, Option.bind_eq_some_iff] at he
    obtain ⟨⟨k, n⟩, hn, he⟩ := he
    have hv := opd_int h hn
    obtain ⟨y, rfl, hr⟩ := foldGo_min (P := P) h l n t he
    refine opV (v := .int k y) (L := .no) h ?_ (TV_R rfl rfl) rfl
    simp only at hr
    simp [execOp, ho, resolve, invoke, builtin, Builtin.min_, hl, hv, hr]
theorem op_max {o : Oper} {c : Call} (ho : o.op = .call c) (hc : c.callee = .builtin .max) {E : Env} (hE : E.A = re) (h : Rel w RO Ls s a.tmps) {t : T}
    (he : foldMM E.A.mx (c.args.toList.map (opd s)) = some t) : OpOK P w RO Ls a o (putD s o.dst t) := by
  obtain ⟨callee, args, argTypes⟩ := c
  simp only at hc; subst hc
  rw [hE] at he
  unfold foldMM at he
  cases hl : args.toList with
  | nil => simp [hl] at he
  | cons x l =>
    simp only [hl, List.map_cons, Option.bind_eq_some_iff] at he
    obtain ⟨⟨k, n⟩, hn, he⟩ := he
    have hv := opd_int h hn
    obtain ⟨y, rfl, hr⟩ := foldGo_max (P := P) h l n t he
    refine opV (v := .int k y) (L := .no) h ?_ (TV_R rfl rfl) rfl
    simp only at hr
    simp [execOp, ho, resolve, invoke, builtin, Builtin.max_, hl, hv, hr]
def ckOf (c : CK) (x y : Value) (r : Bool) : Prop :=
  match c with
  | .i => ∃ k m n, x = .int k m ∧ y = .int k n ∧ r = (m == n)
  | .b => ∃ m n, x = .bool m ∧ y = .bool n ∧ r = (m == n)
def cksOf : List CK → List Value → List Value → Bool → Prop
  | [], xs, ys, r => xs = [] ∧ ys = [] ∧ r = true
  | c :: ks, xs, ys, r => ∃ x xs' y ys' p q, xs = x :: xs' ∧ ys = y :: ys' ∧ ckOf c x y p ∧ cksOf ks xs' ys' q ∧ r = (p && q)
theorem eqK_ok {E : Env} (hE : E.A = re) {c : CK} {x y : R} {v u : Value} {r : Bool} (hx : RC w RO x [v]) (hy : RC w RO y [u]) (he : eqK E c x y = some r) : ckOf c v u r := by
  unfold eqK at he
  cases c with
  | i =>
    cases x <;> simp at he
    cases y <;> simp at he
    rename_i k m k' n
    split at he
    · rename_i hk
      have hk := of_decide_eq_true hk
      subst hk
      simp only [RC, List.cons.injEq, and_true] at hx hy
      cases he
      exact ⟨k, m, n, hx, hy, by rw [hE]; simp only [re, cmI]; exact (Bool.beq_eq_decide_eq m n).symm⟩
    · cases he
  | b =>
    cases x <;> simp at he
    cases y <;> simp at he
    rename_i m n
    simp only [RC, List.cons.injEq, and_true] at hx hy
    exact ⟨m, n, hx, hy, by rw [← he, hE]; rfl⟩
theorem eqKs_ok {E : Env} (hE : E.A = re) : ∀ (ks : List CK) (l m : List R) (xs ys : List Value) (r : Bool), RCL w RO l xs → RCL w RO m ys → eqKs E ks l m = some r → cksOf ks xs ys r
  | [], l, m, xs, ys, r, hx, hy, he => by
    cases l <;> simp [eqKs] at he
    cases m <;> simp at he
    exact ⟨hx, hy, by simpa using he.symm⟩
  | c :: ks, l, m, xs, ys, r, hx, hy, he => by
    cases l with
    | nil => simp [eqKs] at he
    | cons x l =>
      cases m with
      | nil => simp [eqKs] at he
      | cons y m =>
        simp only [eqKs, Option.bind_eq_some_iff, Option.map_eq_some_iff] at he
        obtain ⟨p, hp, q, hq, rfl⟩ := he
        obtain ⟨v, vs, rfl, hv, hvs⟩ := hx
        obtain ⟨u, us, rfl, hu, hus⟩ := hy
        exact ⟨v, vs, u, us, p, q, rfl, rfl, eqK_ok hE hv hu hp, eqKs_ok hE ks l m vs us q hvs hus hq, by rw [hE]; rfl⟩
theorem cksOf_len : ∀ {ks : List CK} {xs ys : List Value} {r : Bool}, cksOf ks xs ys r → xs.length = ks.length ∧ ys.length = ks.length
  | [], xs, ys, r, h => by simp [h.1, h.2.1]
  | c :: ks, xs, ys, r, h => by
    obtain ⟨x, xs', y, ys', p, q, rfl, rfl, _, h, _⟩ := h
    have := cksOf_len h
    simp [this.1, this.2]
theorem cksOf_append : ∀ {ks ls : List CK} {xs ys : List Value} {r : Bool}, cksOf (ks ++ ls) xs ys r → ∃ p q, cksOf ks (xs.take ks.length) (ys.take ks.length) p ∧ cksOf ls (xs.drop ks.length) (ys.drop ks.length) q ∧ r = (p && q)
  | [], ls, xs, ys, r, h => ⟨true, r, by simp [cksOf], by simpa using h, by simp⟩
  | c :: ks, ls, xs, ys, r, h => by
    obtain ⟨x, xs', y, ys', p, q, rfl, rfl, h1, h2, rfl⟩ := h
    obtain ⟨p', q', h3, h4, rfl⟩ := cksOf_append h2
    exact ⟨p && p', q', ⟨x, _, y, _, p, p', by simp, by simp, h1, h3, rfl⟩, by simpa using h4, by cases p <;> simp⟩
def asTy (P : Program) (t : TypeId) (v : Value) (xs : List Value) : Prop :=
  match P.underlying t with
  | some d => (match aggDesc d with | true => ∃ l : Array Value, v = .agg l ∧ l.toList = xs | false => xs = [v])
  | none => False
theorem part_run {t : TypeId} {i : TypeInfo} {d : TypeDesc} (hi : P.info? t = some i) (hd : P.underlying t = some d) (hsz : aggDesc d = false → i.size = 1) (xs : Array Value) (off : Nat) (hl : aggDesc d = false → off < xs.size) :
    ∃ v, (part t xs off).run P w = .ok v w ∧ asTy P t v ((xs.toList.drop off).take i.size) := by
  unfold asTy
  rw [hd]
  cases ha : aggDesc d with
  | true =>
    refine ⟨.agg (xs.extract off (off + i.size)), ?_, ?_⟩
    · simp [part, run_isAgg' hd, ha, run_size hi]
    · simp only [ha]; exact ⟨_, rfl, by simp [Array.toList_extract, List.extract]⟩
  | false =>
    have h1 := hsz ha
    have hlt : off < xs.size := hl ha
    refine ⟨xs[off], ?_, ?_⟩
    · simp [part, run_isAgg' hd, ha, hlt]
    · rw [h1]
      simp only [ha]
      rw [List.drop_eq_getElem_cons (by simpa using hlt)]
      simp
theorem ceqK_sz {n : Nat} {t : TypeId} {ks : List CK} (h : ceqK P n t = some ks) : ∃ i d, P.info? t = some i ∧ P.underlying t = some d ∧ i.size = ks.length ∧ (aggDesc d = false → i.size = 1) := by
  cases n with
  | zero => simp [ceqK] at h
  | succ n =>
    unfold ceqK at h
    split at h
    · cases h
    · rename_i i hi
      split at h
      · rename_i hd
        split at h
        · rename_i hs; cases h; exact ⟨i, _, hi, hd, eq_of_beq hs, fun _ => eq_of_beq hs⟩
        · cases h
      · rename_i hd
        split at h
        · rename_i hs; cases h; exact ⟨i, _, hi, hd, eq_of_beq hs, fun _ => eq_of_beq hs⟩
        · cases h
      · rename_i hd
        split at h
        · cases h
        · simp only [Option.bind_eq_some_iff] at h
          obtain ⟨ks', _, h⟩ := h
          split at h
          · rename_i hs; cases h; exact ⟨i, _, hi, hd, eq_of_beq hs, fun h => by simp [aggDesc] at h⟩
          · cases h
      · cases h
theorem eqFields_ok {n d : Nat} (ih : ∀ (t : TypeId) (ks : List CK) (x y : Value) (xs ys : List Value) (r : Bool), ceqK P n t = some ks → asTy P t x xs → asTy P t y ys → cksOf ks xs ys r → (Op.equalIn d t x y).run P w = .ok r w)
    (xs ys : Array Value) : ∀ (fs : List Field) (o : Nat) (ks : List CK) (r : Bool), ceqF (ceqK P n) o fs = some ks → cksOf ks (xs.toList.drop o) (ys.toList.drop o) r → (Op.eqFields d xs ys fs).run P w = .ok r w
  | [], o, ks, r, h, hc => by
    cases h
    rw [hc.2.2]; rfl
  | f :: fs, o, ks, r, h, hc => by
    unfold ceqF at h
    split at h
    · cases h
    · rename_i hn
      simp only [Bool.and_eq_true, bne_iff_ne, ne_eq, beq_iff_eq] at hn
      split at h
      · rename_i k hk
        simp only [Option.map_eq_some_iff] at h
        obtain ⟨rs, hrs, rfl⟩ := h
        obtain ⟨p, q, h1, h2, rfl⟩ := cksOf_append hc
        obtain ⟨i, dd, hi, hd, hsz, hone⟩ := ceqK_sz hk
        have l1 := cksOf_len h1
        have lx : k.length ≤ xs.size - o := by have := l1.1; simp at this; omega
        have ly : k.length ≤ ys.size - o := by have := l1.2; simp at this; omega
        obtain ⟨v, hv, hv'⟩ := part_run (w := w) hi hd hone xs o (fun h => by have := hone h; omega)
        obtain ⟨u, hu, hu'⟩ := part_run (w := w) hi hd hone ys o (fun h => by have := hone h; omega)
        rw [hsz] at hv' hu'
        have he := ih f.type k v u _ _ p hk hv' hu' h1
        have hrest := eqFields_ok ih xs ys fs (o + k.length) rs q hrs (by rw [← List.drop_drop, ← List.drop_drop]; exact h2)
        simp only [Op.eqFields, hn.1, hn.2, ne_eq, not_false_eq_true, if_true, Sem.run_bind, hv, hu, he, Result.andThen_ok]
        cases p with
        | true => simpa using hrest
        | false => simp
      · cases h
theorem equalIn_ok : ∀ (n d : Nat) (t : TypeId) (ks : List CK) (x y : Value) (xs ys : List Value) (r : Bool), n ≤ d → ceqK P n t = some ks → asTy P t x xs → asTy P t y ys → cksOf ks xs ys r → (Op.equalIn d t x y).run P w = .ok r w
  | 0, d, t, ks, x, y, xs, ys, r, hnd, h, hx, hy, hc => by simp [ceqK] at h
  | n + 1, d, t, ks, x, y, xs, ys, r, hnd, h, hx, hy, hc => by
    obtain ⟨d, rfl⟩ : ∃ e, d = e + 1 := ⟨d - 1, by omega⟩
    unfold ceqK at h
    unfold asTy at hx hy
    split at h
    · cases h
    · rename_i i hi
      split at h
      · rename_i hd
        split at h
        · cases h
          simp only [hd, aggDesc] at hx hy
          subst hx hy
          obtain ⟨x', _, y', _, p, q, h1, h2, ⟨m, n, h3, h4, h5⟩, h6, h7⟩ := hc
          simp only [List.cons.injEq] at h1 h2
          rw [h1.1, h2.1, h3, h4, run_equalIn_bool' w d t m n hd, h7, h5, h6.2.2]; simp
        · cases h
      · rename_i hd
        split at h
        · cases h
          simp only [hd, aggDesc] at hx hy
          subst hx hy
          obtain ⟨x', _, y', _, p, q, h1, h2, ⟨k, m, n, h3, h4, h5⟩, h6, h7⟩ := hc
          simp only [List.cons.injEq] at h1 h2
          rw [h1.1, h2.1, h3, h4, run_equalIn_int w d t k _ m n hd, h7, h5, h6.2.2]; simp
        · cases h
      · rename_i fs hd
        split at h
        · cases h
        · rename_i hst
          simp only [Option.bind_eq_some_iff] at h
          obtain ⟨ks', hks, h⟩ := h
          split at h
          · cases h
            simp only [hd, aggDesc] at hx hy
            obtain ⟨lx, rfl, rfl⟩ := hx
            obtain ⟨ly, rfl, rfl⟩ := hy
            have hf : P.fieldsOf t = fs := by simp [Program.fieldsOf, hd]
            rw [run_equalIn_struct w d t lx ly (by rw [hf]; exact hd) hst, hf]
            exact eqFields_ok (fun t ks x y xs ys r h1 h2 h3 h4 => equalIn_ok n d t ks x y xs ys r (by omega) h1 h2 h3 h4) lx ly fs.toList 0 ks r hks (by simpa using hc)
          · cases h
      · cases h
theorem ceqK_guard : ∀ (n d : Nat) (t : TypeId) (ks : List CK), n ≤ d → ceqK P n t = some ks → P.eqGuardType d t = false
  | 0, d, t, ks, _, h => by simp [ceqK] at h
  | n + 1, d, t, ks, hnd, h => by
    obtain ⟨d, rfl⟩ : ∃ e, d = e + 1 := ⟨d - 1, by omega⟩
    unfold ceqK at h
    split at h
    · cases h
    · split at h
      · rename_i hd; simp [Program.eqGuardType, hd]
      · rename_i hd; simp [Program.eqGuardType, hd]
      · rename_i fs hd
        split at h
        · cases h
        · simp only [Option.bind_eq_some_iff] at h
          obtain ⟨ks', hks, _⟩ := h
          simp only [Program.eqGuardType, hd]
          have : ∀ (l : List Field) (o : Nat) (ks : List CK), ceqF (ceqK P n) o l = some ks → l.any (fun f => f.name != "_" && P.eqGuardType d f.type) = false := by
            intro l
            induction l with
            | nil => intros; rfl
            | cons f l ih =>
              intro o ks h
              unfold ceqF at h
              split at h
              · cases h
              · split at h
                · rename_i k hk
                  simp only [Option.map_eq_some_iff] at h
                  obtain ⟨rs, hrs, _⟩ := h
                  simp [ih _ _ hrs, ceqK_guard n d f.type k (by omega) hk]
                · cases h
          rw [← Array.any_toList]
          exact this _ _ _ hks
      · cases h
theorem re_ar {o : BinOp} {k : IntKind} {x y : Int} : re.ar o k x y = arI o k x y := rfl
theorem op_bin {o : Oper} {op : BinOp} {t t2 : TypeId} {x y : Operand} (ho : o.op = .binOp op t x y t2) {E : Env} (hE : E.A = re) (hti : E.ti = tiOf P) (h : Rel w RO Ls s a.tmps) {r : R}
    (he : binT E op t (opd s x) (opd s y) = some r) : OpOK P w RO Ls a o (putD s o.dst (.r r)) := by
  obtain ⟨Lx, hX, _⟩ := opd_ok h x
  obtain ⟨Ly', hY, _⟩ := opd_ok h y
  unfold binT at he
  simp only [Option.bind_eq_some_iff] at he
  obtain ⟨rx, hrx, ry, hry, he⟩ := he
  have hx := toR_ok hX hrx
  have hy := toR_ok hY hry
  have fin : ∀ v, (eqGuard op t x y (a.eval x) (a.eval y)).run P w = .ok () w → (binOp op t (a.eval x) (a.eval y)).run P w = .ok v w → r.one = true → RC w RO r [v] → OpOK P w RO Ls a o (putD s o.dst (.r r)) :=
    fun v hg hb h1 hc => opV h (by simp [execOp, ho, hg, hb]) (TV_R h1 hc) rfl
  unfold binR at he
  have nilfin : ∀ (b : Bool) (ad : Option Addr) (n c : Nat), a.eval x = .slice ad n c → a.eval y = .slice none 0 0 → ad.isNone = b → nilOp E op t b = some r → OpOK P w RO Ls a o (putD s o.dst (.r r)) := by
    intro b ad n c hx hy hb he
    rw [hx, hy] at fin
    unfold nilOp at he
    simp only [Option.bind_eq_some_iff, hti] at he
    obtain ⟨ty, hty, he⟩ := he
    split at he
    · rename_i el hel
      obtain ⟨i, d, hi, hd, _, _, _, hdesc, _⟩ := ti_info hty
      have hds : d = .slice el := by
        unfold TI.elem? at hel
        rw [hdesc] at hel
        cases d <;> simp_all
      subst hds
      have hr := run_equal_slice_nil (P := P) w t el ad n c hd
      rw [hb] at hr
      cases op <;> simp [eqOp] at he
      · subst he
        exact fin (.bool b) (by simp [eqGuard]) (by simp [binOp, hr]) rfl rfl
      · subst he
        exact fin (.bool (!b)) (by simp [eqGuard]) (by simp [binOp, hr]) rfl (by rw [hE]; rfl)
    · cases he
  split at he
  · rename_i z l
    split at he
    · split at he
      · cases he
      · rename_i hz
        have hne : l ≠ [] := by
          intro h0
          rw [hE, h0] at hz
          simp [re] at hz
        have hy : a.eval y = .slice none 0 0 := by simpa [RV, RC] using hy
        have hx : RC w RO (.ro z l) [a.eval x] := hx
        simp only [RC] at hx
        obtain ⟨ad, cap, h1, _, h2⟩ := hx
        simp only [List.cons.injEq, and_true] at h1
        rcases h2 with h2 | ⟨g, off, h2, _⟩
        · exact absurd h2 hne
        · exact nilfin false ad _ _ h1 hy (by rw [h2]; rfl) he
    · cases he
  · split at he
    · have hy : a.eval y = .slice none 0 0 := by simpa [RV, RC] using hy
      have hx : a.eval x = .slice none 0 0 := by simpa [RV, RC] using hx
      exact nilfin true none 0 0 hx hy rfl he
    · cases he
  · rename_i k m
    split at he
    · rename_i k' n
      have hx : a.eval x = .int k m := by simpa [RV, RC] using hx
      have hy : a.eval y = .int k' n := by simpa [RV, RC] using hy
      rw [hx, hy] at fin
      have hg : (eqGuard op t x y (.int k m) (.int k' n)).run P w = .ok () w := by cases op <;> simp [eqGuard]
      unfold intOp at he
      split at he
      · split at he
        · rename_i hs
          cases he
          have hs : 0 ≤ n := by rw [hE] at hs; simpa [re] using hs
          refine fin _ hg ?_ rfl rfl
          simp [binOp, Op.shift, show ¬ n < 0 by omega, hE, re_ar, arI]
        · cases he
      · split at he
        · rename_i hs
          cases he
          have hs : 0 ≤ n := by rw [hE] at hs; simpa [re] using hs
          refine fin _ hg ?_ rfl rfl
          simp [binOp, Op.shift, show ¬ n < 0 by omega, hE, re_ar, arI]
        · cases he
      · rename_i hshl hshr
        split at he
        · cases he
        · rename_i hk
          have hk := of_decide_eq_true hk
          subst hk
          have hdiv : ∀ op', (op' = .quo ∨ op' = .rem) → (match E.A.nz n with | true => none | false => some (R.i k (E.A.ar op' k m n))) = some r → n ≠ 0 ∧ r = .i k (arI op' k m n) := by
            intro op' _ h
            split at h
            · cases h
            · rename_i hz; cases h
              exact ⟨by rw [hE] at hz; simpa [re] using hz, by rw [hE]; rfl⟩
          cases op
          case shl => exact absurd rfl hshl
          case shr => exact absurd rfl hshr
          all_goals simp only at he
          case quo =>
            obtain ⟨hn, rfl⟩ := hdiv .quo (.inl rfl) he
            exact fin (.int k (k.wrap (m.tdiv n))) hg (by simp [binOp, Op.intDiv, hn]) rfl rfl
          case rem =>
            obtain ⟨hn, rfl⟩ := hdiv .rem (.inr rfl) he
            exact fin (.int k (m.tmod n)) hg (by simp [binOp, Op.intDiv, hn]) rfl rfl
          case add => cases he; exact fin (.int k (arI .add k m n)) hg (by simp [binOp, Op.intArith, arI]) rfl (by rw [hE]; rfl)
          case sub => cases he; exact fin (.int k (arI .sub k m n)) hg (by simp [binOp, Op.intArith, arI]) rfl (by rw [hE]; rfl)
          case mul => cases he; exact fin (.int k (arI .mul k m n)) hg (by simp [binOp, Op.intArith, arI]) rfl (by rw [hE]; rfl)
          case and => cases he; exact fin (.int k (arI .and k m n)) hg (by simp [binOp, Op.intBits, arI]) rfl (by rw [hE]; rfl)
          case or => cases he; exact fin (.int k (arI .or k m n)) hg (by simp [binOp, Op.intBits, arI]) rfl (by rw [hE]; rfl)
          case xor => cases he; exact fin (.int k (arI .xor k m n)) hg (by simp [binOp, Op.intBits, arI]) rfl (by rw [hE]; rfl)
          case andNot => cases he; exact fin (.int k (arI .andNot k m n)) hg (by simp [binOp, Op.intBits, arI]) rfl (by rw [hE]; rfl)
          case eql => cases he; exact fin (.bool (m == n)) hg (by simp [binOp, Op.intCmp]) rfl (by rw [hE]; simp only [re, cmI, RC, Bool.beq_eq_decide_eq])
          case neq => cases he; exact fin (.bool (m != n)) hg (by simp [binOp, Op.intCmp]) rfl (by rw [hE]; simp [re, cmI, RC, bne, Bool.beq_eq_decide_eq])
          case lss => cases he; exact fin (.bool (decide (m < n))) hg (by simp [binOp, Op.intCmp]) rfl (by rw [hE]; rfl)
          case leq => cases he; exact fin (.bool (decide (m ≤ n))) hg (by simp [binOp, Op.intCmp]) rfl (by rw [hE]; rfl)
          case gtr => cases he; exact fin (.bool (decide (m > n))) hg (by simp [binOp, Op.intCmp]) rfl (by rw [hE]; rfl)
          case geq => cases he; exact fin (.bool (decide (m ≥ n))) hg (by simp [binOp, Op.intCmp]) rfl (by rw [hE]; rfl)
    · cases he
  · rename_i b
    split at he
    · rename_i b'
      have hx : a.eval x = .bool b := by simpa [RV, RC] using hx
      have hy : a.eval y = .bool b' := by simpa [RV, RC] using hy
      rw [hx, hy] at fin
      simp only [Option.bind_eq_some_iff, hti] at he
      obtain ⟨ty, hty, he⟩ := he
      split at he
      · rename_i hb
        obtain ⟨i, d, hi, hd, _, _, _, hdesc, _⟩ := ti_info hty
        have hds : d = .bool := by
          unfold TI.isBool at hb
          rw [hdesc] at hb
          cases d <;> simp_all
        subst hds
        have hr := run_equal_bool (P := P) w t b b' hd
        cases op <;> simp [eqOp] at he
        · subst he
          exact fin (.bool (b == b')) (by simp [eqGuard]) (by simp [binOp, hr]) rfl (by rw [hE]; rfl)
        · subst he
          exact fin (.bool (!(b == b'))) (by simp [eqGuard]) (by simp [binOp, hr]) rfl (by rw [hE]; rfl)
      · cases he
    · cases he
  · rename_i b
    split at he
    · rename_i b'
      have hx : a.eval x = .string b := by simpa [RV, RC] using hx
      have hy : a.eval y = .string b' := by simpa [RV, RC] using hy
      rw [hx, hy] at fin
      have hq : E.A.cs .eql b b' = (b.toList == b'.toList) := by
        rw [hE, ByteArray.toList_eq, ByteArray.toList_eq]; rfl
      rw [hq] at he
      cases op <;> simp [eqOp] at he
      · subst he
        exact fin (.bool (b.toList == b'.toList)) (by simp [eqGuard]) (by simp [binOp, Op.stringOp]) rfl rfl
      · subst he
        exact fin (.bool (!(b.toList == b'.toList))) (by simp [eqGuard]) (by simp [binOp, Op.stringOp]) rfl (by rw [hE]; rfl)
    · cases he
  · rename_i l
    split at he
    · rename_i m
      obtain ⟨xs, hxv, hxs⟩ := hx
      obtain ⟨ys, hyv, hys⟩ := hy
      rw [hxv, hyv] at fin
      simp only [Option.bind_eq_some_iff, hti] at he
      obtain ⟨ty, hty, he⟩ := he
      split at he
      case h_2 => cases he
      rename_i hta
      simp only [Option.bind_eq_some_iff] at he
      obtain ⟨ks, hks, q, hq, he⟩ := he
      obtain ⟨i0, d0, hi0, hd0, hag0, _⟩ := ti_info hty
      have hks : ceqK P 6 t = some ks := by
        unfold tiOf at hty
        split at hty
        · cases hty; exact hks
        · cases hty
      obtain ⟨i, d, hi, hd, _, _⟩ := ceqK_sz hks
      have hcs := eqKs_ok hE ks l m xs.toList ys.toList q hxs hys hq
      have hagg : aggDesc d = true := by rw [hd] at hd0; cases hd0; rw [← hag0]; exact hta
      have hr := equalIn_ok (w := w) 6 10000 t ks (.agg xs) (.agg ys) _ _ q (by omega) hks (by unfold asTy; rw [hd]; simp only [hagg]; exact ⟨xs, rfl, rfl⟩) (by unfold asTy; rw [hd]; simp only [hagg]; exact ⟨ys, rfl, rfl⟩) hcs
      have hg := run_eqGuard_agg (P := P) w op t x y xs ys (ceqK_guard 6 _ t ks (by simp [Program.depth, Made.depth]; omega) hks)
      cases op <;> simp [eqOp] at he
      · subst he
        exact fin (.bool q) hg (by rw [run_eql_struct, hr]; rfl) rfl rfl
      · subst he
        exact fin (.bool (!q)) hg (by rw [run_neq_struct, hr]; rfl) rfl (by rw [hE]; rfl)
    · cases he
  · cases he
end
end Go.Os
