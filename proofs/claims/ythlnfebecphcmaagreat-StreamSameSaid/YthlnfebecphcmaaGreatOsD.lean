/-
  The evaluator of the model's code over pure trees, and its soundness: part D of 8.
-/
import Derived.Test.YthlnfebecphcmaaGreatOsC
import Derived.Laws.AppendOwn
set_option linter.unusedVariables false
set_option linter.unusedSimpArgs false
set_option linter.unusedVariables false
namespace Go.Os
section
variable {P : Program} {w : World} {RO : Nat → Prop} {Ls : List Ly} {a : Act} {s : List T}
def RCN (w : World) (RO : Nat → Prop) (sz : Nat) : List R → List Value → Prop
  | [], vs => vs = []
  | x :: l, vs => ∃ b c, vs = b ++ c ∧ b.length = sz ∧ RC w RO x b ∧ RCN w RO sz l c
theorem RCN_len {sz : Nat} : ∀ {l : List R} {vs : List Value}, RCN w RO sz l vs → vs.length = l.length * sz
  | [], vs, h => by rw [show vs = [] from h]; simp
  | x :: l, vs, h => by
    obtain ⟨b, c, hv, hb, _, h⟩ := h
    rw [hv]; simp [hb, RCN_len h, Nat.add_mul, Nat.add_comm]
theorem RCN_append {sz : Nat} : ∀ {l m : List R} {vs us : List Value}, RCN w RO sz l vs → RCN w RO sz m us → RCN w RO sz (l ++ m) (vs ++ us)
  | [], m, vs, us, h, k => by rw [show vs = [] from h]; exact k
  | x :: l, m, vs, us, h, k => by
    obtain ⟨b, c, hv, hb, hx, h⟩ := h
    exact ⟨b, c ++ us, by rw [hv]; simp, hb, hx, RCN_append h k⟩
theorem RCN_frame {w' : World} {RO' : Nat → Prop} (hw : ∀ g, RO g → w'.heap[g]? = w.heap[g]?) (hr : ∀ g, RO g → RO' g) {sz : Nat} : ∀ {l : List R} {vs : List Value}, RCN w RO sz l vs → RCN w' RO' sz l vs
  | [], vs, h => h
  | x :: l, vs, h => by
    obtain ⟨b, c, hv, hb, hx, h⟩ := h
    exact ⟨b, c, hv, hb, RC_frame hw hr x b hx, RCN_frame hw hr h⟩
theorem RCN_of {sz g : Nat} : ∀ {l : List R} {off : Nat}, RCE w RO sz g off l → ∃ vs, RCN w RO sz l vs ∧ ∀ j u, vs[j]? = some u → w.cell? ⟨g, off + j, none⟩ = some u
  | [], off, _ => ⟨[], rfl, by simp⟩
  | x :: l, off, h => by
    obtain ⟨⟨b, h1, h2, h3⟩, h4⟩ := h
    obtain ⟨c, h5, h6⟩ := RCN_of h4
    refine ⟨b ++ c, ⟨b, c, rfl, h1, h3, h5⟩, fun j u hj => ?_⟩
    rcases Nat.lt_or_ge j b.length with hlt | hge
    · rw [List.getElem?_append_left hlt] at hj; exact h2 j u hj
    · rw [List.getElem?_append_right hge] at hj
      have := h6 _ u hj
      rwa [show off + sz + (j - b.length) = off + j by omega] at this
theorem RCE_of {sz g : Nat} : ∀ {l : List R} {off : Nat} {vs : List Value}, RCN w RO sz l vs → (∀ j u, vs[j]? = some u → w.cell? ⟨g, off + j, none⟩ = some u) → RCE w RO sz g off l
  | [], off, vs, _, _ => trivial
  | x :: l, off, vs, h, hc => by
    obtain ⟨b, c, hv, hb, hx, h⟩ := h
    subst hv
    refine ⟨⟨b, hb, fun j u hj => hc j u (by rw [List.getElem?_append_left (List.getElem?_eq_some_iff.1 hj).1]; exact hj), hx⟩, RCE_of h fun j u hj => ?_⟩
    have := hc (b.length + j) u (by rw [List.getElem?_append_right (by omega)]; simpa using hj)
    rwa [hb, ← Nat.add_assoc] at this
mutual
theorem RC_one : ∀ (x : R) (vs : List Value), RC w RO x vs → ∀ v ∈ vs, v.oneCell' = true
  | .b x, vs, h, v, hv => by rw [show vs = _ from h] at hv; simp at hv; subst hv; rfl
  | .i k n, vs, h, v, hv => by rw [show vs = _ from h] at hv; simp at hv; subst hv; rfl
  | .s x, vs, h, v, hv => by rw [show vs = _ from h] at hv; simp at hv; subst hv; rfl
  | .pn, vs, h, v, hv => by rw [show vs = _ from h] at hv; simp at hv; subst hv; rfl
  | .sn, vs, h, v, hv => by rw [show vs = _ from h] at hv; simp at hv; subst hv; rfl
  | .fn, vs, h, v, hv => by rw [show vs = _ from h] at hv; simp at hv; subst hv; rfl
  | .a l, vs, h, v, hv => RCL_one l vs h v hv
  | .ro sz l, vs, h, v, hv => by obtain ⟨ad, cap, h, _⟩ := h; rw [h] at hv; simp at hv; subst hv; rfl
  termination_by structural x => x
theorem RCL_one : ∀ (l : List R) (vs : List Value), RCL w RO l vs → ∀ v ∈ vs, v.oneCell' = true
  | [], vs, h, v, hv => by rw [show vs = _ from h] at hv; simp at hv
  | x :: l, vs, h, v, hv => by
    obtain ⟨u, us, h, h1, h2⟩ := h
    rw [h] at hv
    simp only [List.mem_cons] at hv
    rcases hv with hv | hv
    · exact RC_one x [u] h1 v (by simp [hv])
    · exact RCL_one l us h2 v hv
  termination_by structural x => x
end
theorem RCN_one {sz : Nat} : ∀ {l : List R} {vs : List Value}, RCN w RO sz l vs → ∀ v ∈ vs, v.oneCell' = true
  | [], vs, h, v, hv => by rw [show vs = [] from h] at hv; simp at hv
  | x :: l, vs, h, v, hv => by
    obtain ⟨b, c, hvs, _, hx, h⟩ := h
    rw [hvs] at hv
    simp only [List.mem_append] at hv
    rcases hv with hv | hv
    · exact RC_one x b hx v hv
    · exact RCN_one h v hv
theorem seen_cells {v : Value} {sz : Nat} {l : List R} (h : Seen w RO v sz l) : ∃ ad cap news, v = .slice ad l.length cap ∧ RCN w RO sz l news ∧ (∀ size, size = sz → (Builtin.firstCells size l.length v).run P w = .ok news.toArray w) ∧ (ad = none → l = []) := by
  obtain ⟨ad, cap, hv, hcap, hr⟩ := h
  subst hv
  rcases hr with rfl | ⟨g, off, rfl, hR⟩
  · refine ⟨ad, cap, [], rfl, rfl, fun size hs => ?_, fun _ => rfl⟩
    cases ad with
    | none => exact run_firstCells_none w size 0 0 cap
    | some b => exact run_firstCells_some w size 0 b 0 cap [] (by simp) (by simp)
  · obtain ⟨news, h1, h2⟩ := RCN_of hR
    refine ⟨_, cap, news, rfl, h1, fun size hs => ?_, fun h => by cases h⟩
    subst hs
    exact run_firstCells_some w size l.length ⟨g, off, none⟩ l.length cap news (RCN_len h1) (fun j u hj => by rw [Addr.add_lit]; exact h2 j u hj)
theorem run_append_room' {t ty e te : TypeId} {i : TypeInfo} (ht : P.underlying t = some (.slice e)) (hi : P.info? e = some i) {g sLen sCap m : Nat} {cur : Array Value} (hg : w.heap[g]? = some (.cells cur te (0, 0)))
    {ad : Option Addr} {c : Nat} {news : List Value} (hl : news.length = m * i.size) (hf : (Builtin.firstCells i.size m (.slice ad m c)).run P w = .ok news.toArray w) (h1 : ∀ u ∈ news, u.oneCell' = true)
    (hroom : sLen + m ≤ sCap) (hfit : sLen * i.size + news.length ≤ cur.size) :
    (Builtin.append_ #[t, t] ty #[.slice (some ⟨g, 0, none⟩) sLen sCap, .slice ad m c]).run P w =
      .ok (.slice (some ⟨g, 0, none⟩) (sLen + m) sCap) (w.setRow g (cur.toList.take (sLen * i.size) ++ news ++ cur.toList.drop (sLen * i.size + news.length)).toArray) := by
  have hst := run_storeCells_at P g (sLen * i.size) te news 0 cur w hg (by simpa using hfit) h1
  simp only [Nat.add_zero] at hst
  simp [Builtin.append_, run_underlying ht, sizeOf, typeInfo, hi, Builtin.lenOf, hroom, hf, Addr.add_lit, hst]
theorem run_append_grow' {t ty e : TypeId} {i : TypeInfo} {z : Value} (ht : P.underlying t = some (.slice e)) (hi : P.info? e = some i) (hz : i.zero = some z)
    {base : Option Addr} {sLen sCap n c : Nat} {ad : Option Addr} {olds news : List Value}
    (hfo : (Builtin.firstCells i.size sLen (.slice base sLen sCap)).run P w.drew = .ok olds.toArray w.drew)
    (hf : (Builtin.firstCells i.size n (.slice ad n c)).run P w.drew = .ok news.toArray w.drew)
    (hg : sCap < sLen + n) (h63 : ((sLen + n : Nat) : Int) ≤ 9223372036854775807) (hfit : Builtin.nextslicecap (sLen + n) sCap * i.bytes ≤ 281474976710656) :
    (Builtin.append_ #[t, t] ty #[.slice base sLen sCap, .slice ad n c]).run P w =
      .ok (.slice (some ⟨w.heap.size, 0, none⟩) (sLen + n) (grownCap w (sLen + n) sCap e))
        (w.drew.alloc (.cells (olds.toArray ++ news.toArray ++ Builtin.zeroCells z.cells (grownCap w (sLen + n) sCap e - (sLen + n))) e)) := by
  have hn : ¬ (sLen + n ≤ sCap) := by omega
  have h63' : ¬ (9223372036854775807 < ((sLen : Int) + (n : Int))) := by omega
  have h48' : ¬ (281474976710656 < Builtin.nextslicecap (sLen + n) sCap * i.bytes) := by omega
  simp [Builtin.append_, run_underlying ht, sizeOf, typeInfo, zeroValue, hi, hz, Builtin.lenOf, hn, h63', h48', Question.forced, hf, hfo, newRow, grownCap]
  rw [← Array.append_assoc]
  simp
theorem run_append_none {t ty e : TypeId} {i : TypeInfo} (ht : P.underlying t = some (.slice e)) (hi : P.info? e = some i) {ad : Option Addr} {c : Nat} (hf : (Builtin.firstCells i.size 0 (.slice ad 0 c)).run P w = .ok #[] w) :
    (Builtin.append_ #[t, t] ty #[.slice none 0 0, .slice ad 0 c]).run P w = .ok (.slice none 0 0) w := by
  simp [Builtin.append_, run_underlying ht, sizeOf, typeInfo, hi, Builtin.lenOf, hf]
theorem re_small {n b : Nat} (h : re.small n b = true) : n ≤ 70368744177664 ∧ n * b ≤ 70368744177664 := of_decide_eq_true h
theorem own_put {o : Oper} {w1 : World} {Ls1 : List Ly} {s1 : List T} {W1 : List Nat} {fl : Bool} {sz g n cap : Nat} {cur : Array Value} {te : TypeId} {l : List R} {e : Eff}
    (hr : (execOp a.eval o).run P w = .ok (.value (.slice (some ⟨g, 0, none⟩) n cap)) w1) (h1 : Rel w1 RO Ls1 s1 a.tmps) (hX : Ext w RO Ls W1 w1 RO Ls1) (hpos : 0 < sz)
    (hg : w1.heap[g]? = some (.cells cur te (0, 0))) (hn : n = l.length) (hle : n ≤ cap) (hmx : cap ≤ maxLen) (hsz : cur.size = cap * sz) (hR : RCE w1 RO sz g 0 l)
    (hb : g ∉ Ly.bsL Ls1) (hro : ¬ RO g) (hold : g ∈ Ly.bsL Ls ∨ w.heap.size ≤ g) (he : e.1 = (putD s1 o.dst (.own fl sz l)).1) (hW : ∀ x, x ∈ W1 ∨ x ∈ (putD s1 o.dst (.own fl sz l)).2 → x ∈ e.2) : OpOK P w RO Ls a o e := by
  subst hn
  have hlt : g < w1.heap.size := (Array.getElem?_eq_some_iff.1 hg).1
  refine opP (t := .own fl sz l) (L := .bl g 0 l.length cap []) hr h1 hX ⟨hpos, .inr ⟨g, cap, cur, te, rfl, rfl, hg, hle, hmx, hsz, hR⟩⟩ (by simp [Ly.bs, Ly.bsL]) (fun g' hg' => ?_) he hW
  simp [Ly.bs, Ly.bsL] at hg'
  subst hg'
  exact ⟨hb, hro, hlt, hold⟩
theorem size_zeroCells (z : Array Value) (n : Nat) : (Builtin.zeroCells z n).size = n * z.size := by simp [Builtin.zeroCells]
theorem append_nil_ok {o : Oper} {t : TypeId} {e : TypeId} {ie : TypeInfo} {zv y : Value} {sz : Nat} {s1 : List T} {Ls1 : List Ly} {W1 : List Nat} {fl : Bool} {ys : List R} {ef : Eff}
    (hd : P.underlying t = some (.slice e)) (hie : P.info? e = some ie) (hz : ie.zero = some zv) (hzs : zv.cells.size = sz) (hsz : sz = ie.size) (hpos : 0 < sz)
    (hexec : ∀ v w', (Builtin.append_ #[t, t] o.type #[.slice none 0 0, y]).run P w = .ok v w' → (execOp a.eval o).run P w = .ok (.value v) w')
    (h : Rel w RO Ls s a.tmps) (h1 : Rel w RO Ls1 s1 a.tmps) (hX : Ext w RO Ls W1 w RO Ls1) (hy : Seen w RO y sz ys) (hsm : re.small ys.length ie.bytes = true)
    (he : ef.1 = (putD s1 o.dst (.own fl sz ys)).1) (hW : ∀ x, x ∈ W1 ∨ x ∈ (putD s1 o.dst (.own fl sz ys)).2 → x ∈ ef.2) : OpOK P w RO Ls a o ef := by
  obtain ⟨hs1, hs2⟩ := re_small hsm
  have hN := New.drew w
  have hRO : ∀ g, RO g → w.drew.heap[g]? = w.heap[g]? := fun g hg => rfl
  obtain ⟨ad, cap, news, hv, hnews, hfc, _⟩ := seen_cells (P := P) hy
  have hyd : Seen w.drew RO y sz ys := by
    obtain ⟨ad, cap, hv, hcap, hr⟩ := hy
    exact ⟨ad, cap, hv, hcap, hr.imp id fun ⟨g, off, h1, h2⟩ => ⟨g, off, h1, RCE_frame (w := w) (w' := w.drew) (fun _ _ => rfl) (fun _ h => h) sz g rfl off ys h2⟩⟩
  obtain ⟨ad2, cap2, news2, hv2, hnews2, hfc2, _⟩ := seen_cells (P := P) hyd
  rcases Nat.eq_zero_or_pos ys.length with h0 | h0
  · have hys : ys = [] := List.eq_nil_of_length_eq_zero h0
    subst hys
    have hnn : news = [] := hnews
    subst hnn
    rw [hv] at hexec hfc
    have hrun := hexec _ _ (run_append_none hd hie (hfc ie.size hsz.symm))
    exact opP (t := .own fl sz []) (L := .nl) hrun h1 hX ⟨hpos, .inl ⟨rfl, rfl, rfl⟩⟩ (by simp [Ly.bs]) (by simp [Ly.bs]) he hW
  · rw [hv2] at hexec hfc2
    have hrun := hexec _ _ (run_append_grow' (P := P) hd hie hz (olds := []) (run_firstCells_none w.drew ie.size 0 0 0) (hfc2 ie.size hsz.symm) (by omega) (by omega) (growslice_fits (by omega) (by simp only [Nat.zero_add]; omega)))
    simp only [Nat.zero_add] at hrun
    have hge := grownCap_ge w ys.length 0 e
    have hNw : New w (w.drew.alloc (.cells ((#[] : Array Value) ++ news2.toArray ++ Builtin.zeroCells zv.cells (grownCap w ys.length 0 e - ys.length)) e)) := (New.drew w).trans (New.alloc _ _)
    have hlen := RCN_len hnews2
    have hRn := h1.new hNw (fun _ h => h) (fun _ h => .inl h)
    have hXn := (hX.trans h1.nodup ⟨hNw.os, hNw.tape, hNw.output, hNw.size, fun k hk _ => hNw.blk k hk, fun _ h => h, fun _ h => .inl h, fun _ h => .inl h, fun _ _ => rfl⟩ : Ext w RO Ls (W1 ++ []) _ RO Ls1)
    refine own_put (g := w.heap.size) (cap := grownCap w ys.length 0 e) (by simpa using hrun) (by simpa using hRn) (by simpa using hXn) hpos (by simpa using heap_alloc_new w.drew _) rfl hge
      (grownCap_le_maxLen w _ 0 e (by simp only [maxLen]; omega)) ?_ ?_ (fun hm => by have := (h1.own _ hm).1; omega) (fun hm => by have := h.ro _ hm; omega) (.inr (Nat.le_refl _)) he hW
    · have e1 : (grownCap w ys.length 0 e - ys.length) * sz = grownCap w ys.length 0 e * sz - ys.length * sz := Nat.sub_mul _ _ _
      have e2 : ys.length * sz ≤ grownCap w ys.length 0 e * sz := Nat.mul_le_mul_right _ hge
      simp [size_zeroCells, hzs, hlen]; omega
    · refine RCE_of (RCN_frame (fun g hg => ?_) (fun _ h => h) hnews2) fun j u hj => ?_
      · have := hNw.blk g (h.ro g hg); simp at this; exact this
      · have hj' : j < news2.length := (List.getElem?_eq_some_iff.1 hj).1
        rw [Nat.zero_add]
        have := cell_new w.drew (news2.toArray ++ Builtin.zeroCells zv.cells (grownCap w ys.length 0 e - ys.length)) e j
        rw [show w.drew.heap.size = w.heap.size from rfl] at this
        rw [this, Array.getElem?_append_left (by simpa using hj')]
        simpa using hj
theorem rel_setRow {s1 : List T} {tm : Array Value} (h1 : Rel w RO Ls s1 tm) {g : Nat} {x : Array Value} (hb : g ∉ Ly.bsL Ls) (hro : ¬ RO g) : Rel (w.setRow g x) RO Ls s1 tm := by
  have hh : ∀ k, k ≠ g → (w.setRow g x).heap[k]? = w.heap[k]? := fun k hk => setRow_other w g k x hk
  have hsz : (w.setRow g x).heap.size = w.heap.size := by simp [World.setRow]
  refine ⟨h1.len, h1.lenL, fun j => ?_, h1.nodup, fun k hk => ⟨by rw [hsz]; exact (h1.own k hk).1, (h1.own k hk).2⟩, fun k hk => by rw [hsz]; exact h1.ro k hk⟩
  exact TV_frame (fun k hk => hh k fun e => hro (e ▸ hk)) (fun _ h => h) (fun k hk => hh k fun e => hb (e ▸ getD_mem hk)) (fun r _ L0 h0 _ => h0) (h1.slot j)
theorem append_blk_ok {o : Oper} {t : TypeId} {e te : TypeId} {ie : TypeInfo} {zv y : Value} {sz : Nat} {s1 : List T} {Ls1 : List Ly} {W1 : List Nat} {fl : Bool} {l ys : List R} {ef : Eff} {g cap : Nat} {cur : Array Value}
    (hd : P.underlying t = some (.slice e)) (hie : P.info? e = some ie) (hz : ie.zero = some zv) (hzs : zv.cells.size = sz) (hsz : sz = ie.size) (hpos : 0 < sz)
    (hexec : ∀ v w', (Builtin.append_ #[t, t] o.type #[.slice (some ⟨g, 0, none⟩) l.length cap, y]).run P w = .ok v w' → (execOp a.eval o).run P w = .ok (.value v) w')
    (h : Rel w RO Ls s a.tmps) (h1 : Rel w RO Ls1 s1 a.tmps) (hX : Ext w RO Ls W1 w RO Ls1) (hy : Seen w RO y sz ys) (hsm : re.small (l ++ ys).length ie.bytes = true)
    (hg : w.heap[g]? = some (.cells cur te (0, 0))) (hle : l.length ≤ cap) (hmx : cap ≤ maxLen) (hcs : cur.size = cap * sz) (hR : RCE w RO sz g 0 l)
    (hb : g ∉ Ly.bsL Ls1) (hro : ¬ RO g) (hold : g ∈ Ly.bsL Ls) (hgW : ∃ r ∈ W1, g ∈ (Ls.getD r .no).bs)
    (he : ef.1 = (putD s1 o.dst (.own fl sz (l ++ ys))).1) (hW : ∀ x, x ∈ W1 ∨ x ∈ (putD s1 o.dst (.own fl sz (l ++ ys))).2 → x ∈ ef.2) : OpOK P w RO Ls a o ef := by
  obtain ⟨hs1, hs2⟩ := re_small hsm
  simp only [List.length_append] at hs1 hs2
  obtain ⟨olds, holds, hoc⟩ := RCN_of hR
  have hol := RCN_len holds
  rcases Nat.lt_or_ge cap (l.length + ys.length) with hgrow | hroom
  · -- a new row
    have hyd : Seen w.drew RO y sz ys := by
      obtain ⟨ad, cap, hv, hcap, hr⟩ := hy
      exact ⟨ad, cap, hv, hcap, hr.imp id fun ⟨g, off, h1, h2⟩ => ⟨g, off, h1, RCE_frame (w := w) (w' := w.drew) (fun _ _ => rfl) (fun _ h => h) sz g rfl off ys h2⟩⟩
    obtain ⟨ad2, cap2, news2, hv2, hnews2, hfc2, _⟩ := seen_cells (P := P) hyd
    have hnl := RCN_len hnews2
    rw [hv2] at hexec hfc2
    have hfo := run_firstCells_some (P := P) w.drew sz l.length ⟨g, 0, none⟩ l.length cap olds hol (fun j u hj => by
      rw [Addr.add_lit]; exact hoc j u hj)
    rw [hsz] at hfo
    have hrun := hexec _ _ (run_append_grow' (P := P) hd hie hz hfo (hfc2 ie.size hsz.symm) hgrow (by omega) (growslice_fits hgrow (by omega)))
    have hge := grownCap_ge w (l.length + ys.length) cap e
    have hNw : New w (w.drew.alloc (.cells (olds.toArray ++ news2.toArray ++ Builtin.zeroCells zv.cells (grownCap w (l.length + ys.length) cap e - (l.length + ys.length))) e)) := (New.drew w).trans (New.alloc _ _)
    have hRn := h1.new hNw (fun _ h => h) (fun _ h => .inl h)
    have hXn := (hX.trans h1.nodup ⟨hNw.os, hNw.tape, hNw.output, hNw.size, fun k hk _ => hNw.blk k hk, fun _ h => h, fun _ h => .inl h, fun _ h => .inl h, fun _ _ => rfl⟩ : Ext w RO Ls (W1 ++ []) _ RO Ls1)
    refine own_put (g := w.heap.size) (cap := grownCap w (l.length + ys.length) cap e) hrun hRn (by simpa using hXn) hpos (heap_alloc_new w.drew _) (by simp) hge
      (grownCap_le_maxLen w _ cap e (by simp only [maxLen]; omega)) ?_ ?_ (fun hm => by have := (h1.own _ hm).1; omega) (fun hm => by have := h.ro _ hm; omega) (.inr (Nat.le_refl _)) he hW
    · have e1 : (grownCap w (l.length + ys.length) cap e - (l.length + ys.length)) * sz = grownCap w (l.length + ys.length) cap e * sz - (l.length + ys.length) * sz := Nat.sub_mul _ _ _
      have e2 : (l.length + ys.length) * sz ≤ grownCap w (l.length + ys.length) cap e * sz := Nat.mul_le_mul_right _ hge
      have e3 : (l.length + ys.length) * sz = l.length * sz + ys.length * sz := Nat.add_mul _ _ _
      simp only [Array.size_append, size_zeroCells, hzs, List.size_toArray, hol, hnl]; omega
    · refine RCE_of (RCN_append (RCN_frame (fun g hg => hNw.blk g (h.ro g hg)) (fun _ h => h) holds) (RCN_frame (w := w.drew) (fun g hg => hNw.blk g (h.ro g hg)) (fun _ h => h) hnews2)) fun j u hj => ?_
      have hj' : j < (olds ++ news2).length := (List.getElem?_eq_some_iff.1 hj).1
      rw [Nat.zero_add]
      have := cell_new w.drew (olds.toArray ++ news2.toArray ++ Builtin.zeroCells zv.cells (grownCap w (l.length + ys.length) cap e - (l.length + ys.length))) e j
      rw [show w.drew.heap.size = w.heap.size from rfl] at this
      rw [this, Array.getElem?_append_left (by simpa using hj')]
      simpa using hj
  · -- room
    obtain ⟨ad, c, news, hv, hnews, hfc, _⟩ := seen_cells (P := P) hy
    have hnl := RCN_len hnews
    rw [hv] at hexec hfc
    have e3 : (l.length + ys.length) * sz = l.length * sz + ys.length * sz := Nat.add_mul _ _ _
    have e4 : (l.length + ys.length) * sz ≤ cap * sz := Nat.mul_le_mul_right _ hroom
    have hrun := hexec _ _ (run_append_room' (P := P) hd hie hg (by rw [← hsz]; exact hnl) (hfc ie.size hsz.symm) (RCN_one hnews) hroom (by rw [← hsz]; omega))
    rw [← hsz] at hrun
    generalize hrow : (cur.toList.take (l.length * sz) ++ news ++ cur.toList.drop (l.length * sz + news.length)).toArray = row at hrun
    have hrs : row.size = cap * sz := by rw [← hrow]; simp; omega
    have hR1 := rel_setRow (x := row) h1 hb hro
    have hX1 : Ext w RO Ls W1 (w.setRow g row) RO Ls1 := by
      refine ⟨hX.os, hX.tape, hX.output, by simp [World.setRow], fun k hk hr => ?_, hX.ro, fun k hk => .inl hk, hX.own, hX.ly⟩
      refine setRow_other w g k row fun e => ?_
      subst e
      obtain ⟨r, hrW, hgr⟩ := hgW
      exact hr r hrW hgr
    have hh : ∀ k, RO k → (w.setRow g row).heap[k]? = w.heap[k]? := fun k hk => setRow_other w g k row fun e => hro (e ▸ hk)
    refine own_put hrun hR1 hX1 hpos (setRow_heap w g cur row te (0, 0) hg) (by simp) hroom hmx hrs ?_ hb hro (.inl hold) he hW
    refine RCE_of (RCN_append (RCN_frame hh (fun _ h => h) holds) (RCN_frame hh (fun _ h => h) hnews)) fun j u hj => ?_
    rw [Nat.zero_add, cell_setRow_same w g j cur row te (0, 0) hg, ← hrow]
    have htk : (cur.toList.take (l.length * sz)).length = l.length * sz := by simp; omega
    rcases Nat.lt_or_ge j olds.length with hlt | hge
    · rw [List.getElem?_append_left hlt] at hj
      have := hoc j u hj
      rw [Nat.zero_add] at this
      have hc : w.cell? ⟨g, j, none⟩ = cur[j]? := by simp [World.cell?, hg]
      rw [hc] at this
      simp only [List.getElem?_toArray]
      rw [List.append_assoc, List.getElem?_append_left (by omega), List.getElem?_take, if_pos (by omega)]
      simpa using this
    · rw [List.getElem?_append_right hge] at hj
      have hj' : j - olds.length < news.length := (List.getElem?_eq_some_iff.1 hj).1
      simp only [List.getElem?_toArray]
      rw [List.append_assoc, List.getElem?_append_right (by omega), htk, List.getElem?_append_left (by omega), ← hol]
      exact hj
end
end Go.Os
set_option linter.unusedVariables false
namespace Go.Os
section
variable {P : Program} {w : World} {RO : Nat → Prop} {Ls : List Ly} {a : Act} {s : List T}
theorem op_append1 {o : Oper} {t t2 : TypeId} {x y : Operand} (hexec : ∀ v w', (Builtin.append_ #[t, t2] o.type #[a.eval x, a.eval y]).run P w = .ok v w' → (execOp a.eval o).run P w = .ok (.value v) w')
    {E : Env} (hE : E.A = re) (hti : E.ti = tiOf P) (h : Rel w RO Ls s a.tmps) {e : Eff} (he : evAppend1 E s o.dst t t2 (opd s x) (opd s y) = some e) : OpOK P w RO Ls a o e := by
  unfold evAppend1 at he
  split at he
  · cases he
  · rename_i htt
    have htt := eq_of_beq htt
    subst htt
    simp only [Option.bind_eq_some_iff] at he
    obtain ⟨te, hte, z, hz, ys, hys, he⟩ := he
    obtain ⟨el, ie, hd, hte', hie, hsz, hby⟩ := slEl_ok hti hte
    obtain ⟨zv, ⟨i, hi, hzv⟩, hzs, _⟩ := zeroEl_ok hte' hz
    rw [hie] at hi; cases hi
    obtain ⟨Lx, hX, _⟩ := opd_ok h x
    obtain ⟨Ly', hY, _⟩ := opd_ok h y
    split at he
    · cases he
    · rename_i hso
      have hseen := elems_ok h hE hY hys hso
      split at he
      · rename_i hx
        rw [hx] at hX
        have hv : [a.eval x] = [Value.slice none 0 0] := hX.1
        simp only [List.cons.injEq, and_true] at hv
        rw [hv] at hexec
        split at he
        · rename_i hchk
          simp only [Bool.and_eq_true, Bool.not_eq_true', beq_eq_false_iff_ne, ne_eq, hE] at hchk
          cases he
          exact append_nil_ok (fl := te.flat) (W1 := []) hd hie hzv hzs hsz (by omega) hexec h h (Ext.refl _ _ _) hseen (by rw [← hby]; exact hchk.1) rfl (by simp)
        · cases he
      · rename_i r q sz wd hx
        rw [hx] at hX
        split at he
        · cases he
        · simp only [Option.bind_eq_some_iff, hE] at he
          obtain ⟨t0, hg, he⟩ := he
          split at he
          · rename_i fl z0 l
            split at he
            · rename_i hchk
              simp only [Bool.and_eq_true, beq_iff_eq] at hchk
              obtain ⟨⟨rfl, rfl⟩, hsm⟩ := hchk
              simp only [Option.map_eq_some_iff] at he
              obtain ⟨s1, hs1, rfl⟩ := he
              obtain ⟨_, L0, L1, v1, h0, h1, hv1, hw⟩ := hX
              simp only [List.cons.injEq, and_true] at hv1
              obtain ⟨v', hTC⟩ := rel_place h hg rfl h0 h1
              obtain ⟨M0, Ls1, hM0, hLs1, hR1, hX1⟩ := rel_drop h (getP_lt hg (by simp)) hs1 (.inl rfl)
              rw [h0] at hM0; cases hM0
              obtain ⟨hpos, ⟨hl, hv2, hL⟩ | ⟨g, cap, cur, te2, hv2, hL, hgg, hle, hmx, hcs, hR⟩⟩ := hTC
              · subst hL
                have hv : a.eval x = .slice none 0 0 := by rw [hv1]; exact hw
                rw [hv] at hexec
                subst hl
                exact append_nil_ok (fl := fl) (W1 := [r]) hd hie hzv hzs hsz hpos hexec h hR1 hX1 hseen (by rw [← hby]; exact hsm) rfl (by
                  intro k hk; simp only [List.mem_singleton] at hk; rcases hk with hk | hk
                  · simp [hk]
                  · simp only [List.mem_cons, List.mem_append]; exact .inr (.inr hk))
              · subst hL
                have hv : a.eval x = .slice (some ⟨g, 0, none⟩) l.length cap := by rw [hv1]; exact hw
                rw [hv] at hexec
                have hgL : g ∈ (Ls.getD r .no).bs := by
                  simp only [List.getD_eq_getElem?_getD, h0, Option.getD_some]
                  exact lyAt_bs q L0 _ h1 g (by simp [Ly.bs])
                have hout : g ∉ Ly.bsL Ls1 := by
                  intro hgm
                  rw [hLs1] at hgm
                  rcases bsL_set_mem hgm with hgm | ⟨j, hj, hgm⟩
                  · exact setLy_out q L0 .no _ rfl (nodup_of_get h.nodup h0) h1 g (by simp [Ly.bs]) hgm
                  · exact hj (getD_disj h.nodup hgm hgL)
                exact append_blk_ok (fl := fl) (W1 := [r]) hd hie hzv hzs hsz hpos hexec h hR1 hX1 hseen (by rw [← hby]; exact hsm) hgg hle hmx hcs hR hout (h.own g (getD_mem hgL)).2 (getD_mem hgL) ⟨r, by simp, hgL⟩ rfl (by
                  intro k hk; simp only [List.mem_singleton] at hk; rcases hk with hk | hk
                  · simp [hk]
                  · simp only [List.mem_cons, List.mem_append]; exact .inr (.inr hk))
            · cases he
          · cases he
      · cases he
theorem OpOK.pre {o : Oper} {RO1 : Nat → Prop} {Ls1 : List Ly} {W1 : List Nat} {s1 : List T} {e e' : Eff} (h1 : Rel w RO1 Ls1 s1 a.tmps) (hX : Ext w RO Ls W1 w RO1 Ls1) (h : OpOK P w RO1 Ls1 a o e)
    (he : e'.1 = e.1) (hW : ∀ x, x ∈ W1 ∨ x ∈ e.2 → x ∈ e'.2) : OpOK P w RO Ls a o e' := by
  intro K Q hK
  refine h K Q fun a' w' RO' Ls' hR hd hX' => hK a' w' RO' Ls' (by rw [he]; exact hR) hd ((hX.trans h1.nodup hX').mono fun x hx => ?_)
  simp only [List.mem_append] at hx
  exact hW x hx
theorem op_append {o : Oper} {t t2 : TypeId} {x y : Operand} {c : Call} (ho : o.op = .call c) (hc : c.callee = .builtin .append) (ha : c.args.toList = [x, y]) (htys : c.argTypes.toList = [t, t2])
    {E : Env} (hE : E.A = re) (hti : E.ti = tiOf P) (h : Rel w RO Ls s a.tmps) {e : Eff} (he : evAppend E s o.dst t t2 x y = some e) : OpOK P w RO Ls a o e := by
  have hargs : c.args = #[x, y] := by have := congrArg List.toArray ha; simpa using this
  have htypes : c.argTypes = #[t, t2] := by have := congrArg List.toArray htys; simpa using this
  obtain ⟨callee, args, argTypes⟩ := c
  simp only at hc hargs htypes
  subst hc hargs htypes
  have hexec : ∀ v w', (Builtin.append_ #[t, t2] o.type #[a.eval x, a.eval y]).run P w = .ok v w' → (execOp a.eval o).run P w = .ok (.value v) w' := by
    intro v w' hr
    simp [execOp, ho, resolve, invoke, builtin, hr]
  unfold evAppend at he
  simp only [Option.bind_eq_some_iff, Option.map_eq_some_iff] at he
  obtain ⟨f, hf, e1, he1, rfl⟩ := he
  have fz : ∃ RO1 Ls1, Rel w RO1 Ls1 f.1 a.tmps ∧ Ext w RO Ls f.2 w RO1 Ls1 := by
    unfold frozen at hf
    split at hf
    · split at hf
      · obtain ⟨RO1, Ls1, h1, h2, _⟩ := freezeAll_ok hE _ s [] f RO Ls h hf
        exact ⟨RO1, Ls1, h1, h2⟩
      · cases hf; exact ⟨RO, Ls, h, Ext.refl _ _ _⟩
    · cases hf; exact ⟨RO, Ls, h, Ext.refl _ _ _⟩
  obtain ⟨RO1, Ls1, h1, h2⟩ := fz
  exact OpOK.pre h1 h2 (op_append1 hexec hE hti h1 he1) rfl (by simp)
end
end Go.Os
set_option linter.unusedVariables false
namespace Go.Os
section
variable {P : Program} {w w' : World} {RO : Nat → Prop} {Ls : List Ly} {a : Act} {s : List T} {g : Nat}
theorem TC_far (ho : ∀ k, k ≠ g → w'.heap[k]? = w.heap[k]?) (hro : ¬ RO g) {t : T} {vs : List Value} {L : Ly} (hb : g ∉ L.bs) (h : TC w RO Ls t vs L) : TC w' RO Ls t vs L := by
  have := TC_map (fp := .p) (fv := .v) (Ls' := Ls) (fun k hk => ho k (fun e => hro (e ▸ hk))) (fun _ h => h) t vs L (fun k hk => ho k (fun e => hb (e ▸ hk)))
    (Maps.keeps fun r _ L0 h0 _ => h0) h
  rwa [mapT_id] at this
theorem TCC_far (ho : ∀ k, k ≠ g → w'.heap[k]? = w.heap[k]?) (hro : ¬ RO g) {gb : Nat} (hne : gb ≠ g) {c : T} {f : Ly → Ly} : ∀ {l : List T} {off k : Nat} {cs : List Ly} {x : T} {Lk : Ly}, l[k]? = some x → cs[k]? = some Lk →
    (∀ (j : Nat) (L : Ly), j ≠ k → cs[j]? = some L → g ∉ L.bs) → (∀ v, TC w RO Ls x [v] Lk → TC w' RO Ls c [v] (f Lk)) →
    TCC w RO Ls gb off l cs → TCC w' RO Ls gb off (l.set k c) (cs.modify k f)
  | [], _, _, _, _, _, h, _, _, _, _ => by simp at h
  | t :: l, off, k, cs, x, Lk, hx, hL, hb, hf, h => by
    obtain ⟨v, L, cs', he, h0, h1, h2⟩ := h
    subst he
    have h0' := (cell_eq (ho gb hne) off).trans h0
    cases k with
    | zero =>
      simp at hx hL; subst hx; subst hL
      refine ⟨v, f L, cs', by simp, h0', hf v h1, ?_⟩
      have : ∀ {l : List T} {off : Nat} {cs : List Ly}, (∀ (j : Nat) (L : Ly), cs[j]? = some L → g ∉ L.bs) → TCC w RO Ls gb off l cs → TCC w' RO Ls gb off l cs := by
        intro l
        induction l with
        | nil => intro off cs _ h; exact h
        | cons a l ih =>
          intro off cs hb h
          obtain ⟨v, L, cs', he, h0, h1, h2⟩ := h
          subst he
          exact ⟨v, L, cs', rfl, (cell_eq (ho gb hne) off).trans h0, TC_far ho hro (hb 0 L rfl) h1, ih (fun j L1 hj => hb (j + 1) L1 (by simpa using hj)) h2⟩
      exact this (fun j L1 hj => hb (j + 1) L1 (by omega) (by simpa using hj)) h2
    | succ k => exact ⟨v, L, cs'.modify k f, by simp, h0', TC_far ho hro (hb 0 L (by omega) rfl) h1,
        TCC_far ho hro hne (by simpa using hx) (by simpa using hL) (fun j L1 hj hj1 => hb (j + 1) L1 (by omega) (by simpa using hj1)) hf h2⟩
theorem TCL_far0 (ho : ∀ k, k ≠ g → w'.heap[k]? = w.heap[k]?) (hro : ¬ RO g) : ∀ {l : List T} {vs : List Value} {cs : List Ly}, g ∉ Ly.bsL cs → TCL w RO Ls l vs cs → TCL w' RO Ls l vs cs
  | [], vs, cs, _, h => h
  | t :: l, vs, cs, hb, h => by
    obtain ⟨v, vs', L, cs', hv, he, h1, h2⟩ := h
    subst he
    simp only [Ly.bsL, List.mem_append, not_or] at hb
    exact ⟨v, vs', L, cs', hv, rfl, TC_far ho hro hb.1 h1, TCL_far0 ho hro hb.2 h2⟩
theorem TCL_far (ho : ∀ k, k ≠ g → w'.heap[k]? = w.heap[k]?) (hro : ¬ RO g) {c : T} {f : Ly → Ly} : ∀ {l : List T} {vs : List Value} {k : Nat} {cs : List Ly} {x : T} {Lk : Ly}, l[k]? = some x → cs[k]? = some Lk →
    (∀ (j : Nat) (L : Ly), j ≠ k → cs[j]? = some L → g ∉ L.bs) → (∀ v, TC w RO Ls x [v] Lk → TC w' RO Ls c [v] (f Lk)) →
    TCL w RO Ls l vs cs → TCL w' RO Ls (l.set k c) vs (cs.modify k f)
  | [], _, _, _, _, _, h, _, _, _, _ => by simp at h
  | t :: l, vs, k, cs, x, Lk, hx, hL, hb, hf, h => by
    obtain ⟨v, vs', L, cs', hv, he, h1, h2⟩ := h
    subst he
    cases k with
    | zero =>
      simp at hx hL; subst hx; subst hL
      refine ⟨v, vs', f L, cs', hv, by simp, hf v h1, TCL_far0 ho hro ?_ h2⟩
      intro hg
      obtain ⟨j, L1, h3, h4⟩ := mem_bsL_get hg
      exact hb (j + 1) L1 (by omega) (by simpa using h3) h4
    | succ k => exact ⟨v, vs', L, cs'.modify k f, hv, by simp, TC_far ho hro (hb 0 L (by omega) rfl) h1,
        TCL_far ho hro (by simpa using hx) (by simpa using hL) (fun j L1 hj hj1 => hb (j + 1) L1 (by omega) (by simpa using hj1)) hf h2⟩
theorem TCE_far0 (ho : ∀ k, k ≠ g → w'.heap[k]? = w.heap[k]?) (hro : ¬ RO g) {gb sz : Nat} (hne : gb ≠ g) : ∀ {l : List T} {off : Nat} {cs : List Ly}, g ∉ Ly.bsL cs → TCE w RO Ls sz gb off l cs → TCE w' RO Ls sz gb off l cs
  | [], off, cs, _, h => h
  | t :: l, off, cs, hb, h => by
    obtain ⟨vs, L, cs', h1, h2, he, h3, h4, h5⟩ := h
    subst he
    rw [bsL_append, bs_un] at hb
    simp only [List.mem_append, not_or] at hb
    exact ⟨vs, L, cs', h1, h2, rfl, fun j v hj => (cell_eq (ho gb hne) _).trans (h3 j v hj), TC_far ho hro hb.1 h4, TCE_far0 ho hro hne hb.2 h5⟩
theorem TCE_far {gb : Nat} (ho : ∀ k, k ≠ g → w'.heap[k]? = w.heap[k]?) (hro : ¬ RO g) (hne : gb ≠ g) {sz : Nat} {c : T} {f : Ly → Ly} : ∀ {l : List T} {off i k : Nat} {cs : List Ly} {x y : T} {Lk : Ly},
    l[i]? = some x → x.cells[k]? = some y → k < sz → cs[i * sz + k]? = some Lk → (Lk.un = [Lk] → (f Lk).un = [f Lk]) →
    (∀ (j : Nat) (L : Ly), j ≠ i * sz + k → cs[j]? = some L → g ∉ L.bs) → (∀ v, TC w RO Ls y [v] Lk → TC w' RO Ls c [v] (f Lk)) →
    TCE w RO Ls sz gb off l cs → TCE w' RO Ls sz gb off (l.set i (x.setCell k c)) (cs.modify (i * sz + k) f)
  | [], _, _, _, _, _, _, _, h, _, _, _, _, _, _, _ => by simp at h
  | t :: l, off, i, k, cs, x, y, Lk, hx, hy, hk, hL, hfu, hb, hf, h => by
    obtain ⟨vs, L, cs', h1, h2, he, h3, h4, h5⟩ := h
    subst he
    have h3' : ∀ j v, vs[j]? = some v → w'.cell? ⟨gb, off + j, none⟩ = some v := fun j v hj => (cell_eq (ho gb hne) _).trans (h3 j v hj)
    cases i with
    | zero =>
      simp only [List.getElem?_cons_zero, Option.some.injEq] at hx; subst hx
      rw [Nat.zero_mul, Nat.zero_add] at hL hb ⊢
      rw [modify_append_left _ _ _ _ (by omega)]
      have hLu : L.un[k]? = some Lk := by rwa [List.getElem?_append_left (by omega)] at hL
      have rest : TCE w' RO Ls sz gb (off + sz) l cs' := by
        refine TCE_far0 ho hro hne (fun hg => ?_) h5
        obtain ⟨j, L1, hj, hg⟩ := mem_bsL_get hg
        exact hb (L.un.length + j) L1 (by omega) (by rw [List.getElem?_append_right (by omega)]; simpa using hj) hg
      rcases TC_elem h4 (by rw [h1, h2]) hy with ⟨l', rfl⟩ | ⟨rfl, rfl, hu, ⟨v, hv⟩, hs⟩
      · obtain ⟨cs1, hL1, h6⟩ := h4
        subst hL1
        simp only [Ly.un] at hLu h2
        have h7 := TCL_far ho hro hy hLu (fun j L1 hj hj1 => hb j L1 hj (by simp only [Ly.un]; rw [List.getElem?_append_left (List.getElem?_eq_some_iff.1 hj1).1]; exact hj1)) hf h6
        exact ⟨vs, .ag (cs1.modify k f), cs', h1, by simpa [Ly.un] using h2, rfl, h3', ⟨_, rfl, h7⟩, rest⟩
      · have hu' := hu
        rw [hu] at hLu
        simp only [List.getElem?_cons_zero, Option.some.injEq] at hLu
        subst hLu
        have hfu := hfu hu'
        refine ⟨vs, f L, cs', h1, by rw [hfu]; rw [hu] at h2; exact h2, by rw [hu]; simp [hfu], h3', ?_, rest⟩
        rw [hs, hv]; exact hf v (hv ▸ h4)
    | succ i =>
      have hidx : (i + 1) * sz + k = L.un.length + (i * sz + k) := by rw [Nat.add_mul]; omega
      rw [hidx] at hL hb ⊢
      rw [modify_append_right]
      rw [List.getElem?_append_right (by omega), Nat.add_sub_cancel_left] at hL
      have hbL : g ∉ L.bs := by
        rw [← bs_un]
        intro hg
        obtain ⟨j, L1, hj, hg⟩ := mem_bsL_get hg
        have hjl := (List.getElem?_eq_some_iff.1 hj).1
        exact hb j L1 (by omega) (by rw [List.getElem?_append_left hjl]; exact hj) hg
      refine ⟨vs, L, _, h1, h2, rfl, h3', TC_far ho hro hbL h4, TCE_far ho hro hne (by simpa using hx) hy hk hL hfu (fun j L1 hj hj1 => ?_) hf h5⟩
      exact hb (L.un.length + j) L1 (by omega) (by rw [List.getElem?_append_right (by omega)]; simpa using hj1)
theorem gsetW (ho : ∀ k, k ≠ g → w'.heap[k]? = w.heap[k]?) (hro : ¬ RO g) {c : T} {N L1 : Ly} (hg1 : g ∈ L1.bs) (hN : N.un = [N]) : ∀ (q : Pth) (t : T) (vs : List Value) (L : Ly) (t' : T), q ≠ [] → TC w RO Ls t vs L → L.bs.Nodup → lyAt L q = some L1 → setT re t q c = some t' →
    (∀ c0 v', getT re t q = some c0 → Place w RO Ls L q c0 v' → TC w' RO Ls c [v'] N) → TC w' RO Ls t' vs (setLy L q N) := by
  intro q
  induction q with
  | nil => intro _ _ _ _ h; exact absurd rfl h
  | cons x q ih =>
    intro t vs L t' _ h hnd hly hs hc
    have sub : ∀ x1 v1 K y1, TC w RO Ls x1 [v1] K → K.bs.Nodup → lyAt K q = some L1 → setT re x1 q c = some y1 → (∀ c0 v', getT re x1 q = some c0 → Place w RO Ls K q c0 v' → TC w' RO Ls c [v'] N) → TC w' RO Ls y1 [v1] (setLy K q N) := by
      intro x1 v1 K y1 hT hnd1 hly1 hs1 hc1
      by_cases hq : q = []
      · subst hq
        rw [setT_nil] at hs1; cases hs1
        rw [setLy_nil]
        exact hc1 x1 v1 (by cases x1 <;> rfl) (.inl ⟨K, lyAt_nil K, hT⟩)
      · exact ih x1 [v1] K y1 hq hT hnd1 hly1 hs1 hc1
    rw [lyAt_cons, Option.bind_eq_some_iff] at hly
    obtain ⟨K, hK, hly⟩ := hly
    have hgK := lyAt_bs q K L1 hly g hg1
    cases x with
    | d k =>
      cases t with
      | bx l =>
        obtain ⟨gb, off, cs, cur, e, hv, hL, hg, h4⟩ := h
        subst hL
        simp only [Ly.bs, List.nodup_cons] at hnd
        simp only [kid] at hK
        have hne : gb ≠ g := fun e => hnd.1 (e ▸ bsL_get hK g hgK)
        simp only [setT] at hs
        cases hl : l[k]? with
        | none => simp [hl] at hs
        | some x1 =>
          simp only [hl] at hs
          cases hx : setT re x1 q c with
          | none => simp [hx] at hs
          | some y1 =>
            simp only [hx, Option.some.injEq] at hs
            subst hs
            refine ⟨gb, off, cs.modify k fun L => setLy L q N, cur, e, hv, by simp [setLy], (ho gb hne).trans hg, TCC_far ho hro hne hl hK (fun j M hj hM hgM => nodup_get hnd.2 hM hK hj g hgM hgK) (fun v hv' => ?_) h4⟩
            refine sub x1 v K y1 hv' (nodup_of_get hnd.2 hK) hly hx fun c0 v' h5 h6 => hc c0 v' (by simpa [getT, hl] using h5) ?_
            rcases h6 with ⟨L', h6, h7⟩ | ⟨h6, h7⟩
            · exact .inl ⟨L', by simpa [lyAt, hK] using h6, h7⟩
            · exact .inr ⟨by simpa [lyAt, hK] using h6, h7⟩
      | _ => simp [setT] at hs
    | t k =>
      cases t with
      | a l =>
        obtain ⟨cs, hL, h⟩ := h
        subst hL
        simp only [Ly.bs] at hnd
        simp only [kid] at hK
        simp only [setT] at hs
        cases hl : l[k]? with
        | none => simp [hl] at hs
        | some x1 =>
          simp only [hl] at hs
          cases hx : setT re x1 q c with
          | none => simp [hx] at hs
          | some y1 =>
            simp only [hx, Option.some.injEq] at hs
            subst hs
            refine ⟨cs.modify k fun L => setLy L q N, by simp [setLy], TCL_far ho hro hl hK (fun j M hj hM hgM => nodup_get hnd hM hK hj g hgM hgK) (fun v hv' => ?_) h⟩
            refine sub x1 v K y1 hv' (nodup_of_get hnd hK) hly hx fun c0 v' h5 h6 => hc c0 v' (by simpa [getT, hl] using h5) ?_
            rcases h6 with ⟨L', h6, h7⟩ | ⟨h6, h7⟩
            · exact .inl ⟨L', by simpa [lyAt, hK] using h6, h7⟩
            · exact .inr ⟨by simpa [lyAt, hK] using h6, h7⟩
      | tp b l =>
        obtain ⟨tv, cs, hv, hL, h⟩ := h
        subst hL
        simp only [Ly.bs] at hnd
        simp only [kid] at hK
        simp only [setT] at hs
        cases hl : l[k]? with
        | none => simp [hl] at hs
        | some x1 =>
          simp only [hl] at hs
          cases hx : setT re x1 q c with
          | none => simp [hx] at hs
          | some y1 =>
            simp only [hx, Option.some.injEq] at hs
            subst hs
            refine ⟨tv, cs.modify k fun L => setLy L q N, hv, by simp [setLy], TCL_far ho hro hl hK (fun j M hj hM hgM => nodup_get hnd hM hK hj g hgM hgK) (fun v hv' => ?_) h⟩
            refine sub x1 v K y1 hv' (nodup_of_get hnd hK) hly hx fun c0 v' h5 h6 => hc c0 v' (by simpa [getT, hl] using h5) ?_
            rcases h6 with ⟨L', h6, h7⟩ | ⟨h6, h7⟩
            · exact .inl ⟨L', by simpa [lyAt, hK] using h6, h7⟩
            · exact .inr ⟨by simpa [lyAt, hK] using h6, h7⟩
      | _ => simp [setT] at hs
    | e i sz k =>
      cases t with
      | own fl sz0 l =>
        obtain ⟨_, ⟨_, _, hL⟩ | ⟨_, _, _, _, _, hL, _⟩⟩ := h <;> subst hL <;> simp [kid] at hK
      | ow sz0 l =>
        obtain ⟨hpos, gb, cap, cur, e, cs, hv, hL, hg, h1, h2, h3, h4⟩ := h
        subst hL
        simp only [Ly.bs, List.nodup_cons] at hnd
        simp only [kid] at hK
        have hne : gb ≠ g := fun e => hnd.1 (e ▸ bsL_get hK g hgK)
        simp only [setT] at hs
        by_cases hsz : sz0 = sz
        · subst hsz
          simp only [beq_self_eq_true] at hs
          cases hl : l[i]? with
          | none => simp [hl] at hs
          | some x1 =>
            simp only [hl] at hs
            cases ho' : x1.cells[k]? with
            | none => simp [ho'] at hs
            | some y1 =>
              simp only [ho'] at hs
              cases hx : setT re y1 q c with
              | none => simp [hx] at hs
              | some z1 =>
                simp only [hx, Option.some.injEq] at hs
                subst hs
                obtain ⟨vs, L2, h5, h6, h7, h8, h9⟩ := TCE_get h4 hl
                obtain ⟨v1, L3, hv1, hu, hT⟩ := TC_cell h9 (by rw [h5, h6]) ho'
                have hlt : k < sz0 := by have := (List.getElem?_eq_some_iff.1 hv1).1; omega
                refine ⟨hpos, gb, cap, cur, e, cs.modify (i * sz0 + k) fun L => setLy L q N, by rw [hv]; simp, by simp [setLy], (ho gb hne).trans hg, by simpa using h1, h2, h3, ?_⟩
                refine TCE_far ho hro hne hl ho' hlt hK (fun h => setLy_un h hN) (fun j M hj hM hgM => nodup_get hnd.2 hM hK hj g hgM hgK) (fun v hv' => ?_) h4
                refine sub y1 v K z1 hv' (nodup_of_get hnd.2 hK) hly hx fun c0 v' h5 h6 => hc c0 v' (by simpa [getT, hl, ho'] using h5) ?_
                rcases h6 with ⟨L', h6, h7⟩ | ⟨h6, h7⟩
                · exact .inl ⟨L', by simpa [lyAt, hK] using h6, h7⟩
                · exact .inr ⟨by simpa [lyAt, hK] using h6, h7⟩
        · have : (sz0 == sz) = false := by simp [hsz]
          simp [this] at hs
      | _ => cases q <;> simp [setT] at hs
end
end Go.Os
set_option linter.unusedVariables false
namespace Go.Os
section
variable {P : Program} {w w' : World} {RO : Nat → Prop} {Ls : List Ly} {a : Act} {s : List T} {g : Nat}
theorem TV_head {t c t' : T} {q : Pth} {v : Value} {L : Ly} (hq : q ≠ []) (hs : setT re t q c = some t') (h : TV w RO Ls t v L) :
    ∃ vs, TC w RO Ls t vs L ∧ ∀ {w' RO' Ls' L'}, TC w' RO' Ls' t' vs L' → TV w' RO' Ls' t' v L' := by
  cases q with
  | nil => exact absurd rfl hq
  | cons x q =>
    cases t with
    | a l =>
      obtain ⟨vs, cs, hv, hL, h⟩ := h
      refine ⟨vs.toList, ⟨cs, hL, h⟩, ?_⟩
      cases x with
      | t k =>
        simp only [setT] at hs
        split at hs
        · split at hs
          · cases hs; rintro w' RO' Ls' L' ⟨cs', h1, h2⟩; exact ⟨vs, cs', hv, h1, h2⟩
          · cases hs
        · cases hs
      | d k => simp [setT] at hs
      | e i sz k => cases q <;> simp [setT] at hs
    | bx l =>
      refine ⟨[v], h, ?_⟩
      cases x <;> simp only [setT] at hs
      · split at hs
        · split at hs
          · cases hs; exact fun h => h
          · cases hs
        · cases hs
      all_goals simp at hs
    | tp b l =>
      refine ⟨[v], h, ?_⟩
      cases x <;> simp only [setT] at hs
      case t k =>
        split at hs
        · split at hs
          · cases hs; exact fun h => h
          · cases hs
        · cases hs
      all_goals simp at hs
    | own fl sz l =>
      refine ⟨[v], h, ?_⟩
      cases x with
      | e i sz' k =>
        cases q with
        | cons y q => simp [setT] at hs
        | nil => cases c with
          | r c1 =>
            simp only [setT] at hs
            split at hs
            · split at hs
              · cases hs; exact fun h => h
              · cases hs
            · cases hs
          | _ => simp [setT] at hs
      | _ => simp [setT] at hs
    | ow sz l =>
      refine ⟨[v], h, ?_⟩
      cases x with
      | e i sz' k =>
        simp only [setT] at hs
        split at hs
        · split at hs
          · split at hs
            · cases hs; exact fun h => h
            · cases hs
          · cases hs
        · cases hs
      | _ => simp [setT] at hs
    | _ => cases x <;> (try cases q) <;> simp [setT] at hs
theorem rel_row {tm : Array Value} {s1 : List T} {r : Nat} {q : Pth} {fl : Bool} {z cap : Nat} {l l' : List R} {L0 : Ly} {cur' : Array Value} {te : TypeId}
    (h : Rel w RO Ls s tm) (hg : getP re s r q = some (.own fl z l)) (h0 : Ls[r]? = some L0) (h1 : lyAt L0 q = some (.bl g 0 l.length cap [])) (hro : ¬ RO g)
    (ho : ∀ k, k ≠ g → w'.heap[k]? = w.heap[k]?) (hos : w'.os = w.os) (htp : w'.tape = w.tape) (hou : w'.output = w.output) (hsz : w'.heap.size = w.heap.size)
    (hg' : w'.heap[g]? = some (.cells cur' te (0, 0))) (hcs : cur'.size = cap * z) (hR : RCE w' RO z g 0 l') (hl : l'.length = l.length) (hs : setP re s r q (.own fl z l') = some s1) :
    Rel w' RO Ls s1 tm ∧ Ext w RO Ls [r] w' RO Ls := by
  obtain ⟨t', ht, rfl⟩ := setP_slot hs
  have hlt : r < Ls.length := (List.getElem?_eq_some_iff.1 h0).1
  have hL0 : Ls.getD r .no = L0 := by simp [List.getD_eq_getElem?_getD, h0]
  have hgL : g ∈ (Ls.getD r .no).bs := by rw [hL0]; exact lyAt_bs q L0 _ h1 g (by simp [Ly.bs])
  have hnew : ∀ v', TC w RO Ls (.own fl z l) [v'] (.bl g 0 l.length cap []) → TC w' RO Ls (.own fl z l') [v'] (.bl g 0 l.length cap []) := by
    rintro v' ⟨hpos, ⟨_, _, hL⟩ | ⟨g1, cap1, cur, e, hv, hL, _, hle, hmx, _, _⟩⟩
    · cases hL
    · cases hL
      exact ⟨hpos, .inr ⟨g, cap, cur', te, by rw [hv, hl], by rw [hl], hg', by omega, hmx, hcs, hR⟩⟩
  refine ⟨⟨by simp [h.len], by simp [h.lenL], fun j => ?_, h.nodup, fun k hk => ⟨by rw [hsz]; exact (h.own k hk).1, (h.own k hk).2⟩, fun k hk => by rw [hsz]; exact h.ro k hk⟩, ?_⟩
  · rw [slot_set]
    by_cases e : j = r
    · subst e
      rw [if_pos ⟨rfl, by rw [← h.lenL]; exact hlt⟩, hL0]
      have hr := h.slot j
      rw [hL0] at hr
      by_cases hq : q = []
      · subst hq
        rw [setT_nil] at ht; cases ht
        rw [lyAt_nil] at h1; cases h1
        have e : ∀ t : T, getT re t [] = some t := fun t => by cases t <;> rfl
        have hsl : slot s j = .own fl z l := by unfold getP at hg; rw [e] at hg; exact Option.some.inj hg
        rw [hsl] at hr
        exact hnew _ hr
      · obtain ⟨vs, hT, hback⟩ := TV_head hq ht hr
        have := gsetW ho hro (L1 := .bl g 0 l.length cap []) (N := .bl g 0 l.length cap []) (by simp [Ly.bs]) rfl q _ vs L0 t' hq hT (nodup_of_get h.nodup h0) h1 ht (fun c0 v' hc0 hp => by
          have hg0 : getT re (slot s j) q = some (.own fl z l) := hg
          rw [hg0] at hc0; cases hc0
          rcases hp with ⟨L', h2, h3⟩ | ⟨h2, _⟩
          · rw [h1] at h2; cases h2; exact hnew v' h3
          · rw [h1] at h2; cases h2)
        rw [setLy_self q L0 _ h1] at this
        exact hback this
    · rw [if_neg (by simp [e])]
      refine TV_frame (fun k hk => ho k fun e => hro (e ▸ hk)) (fun _ h => h) (fun k hk => ho k fun e' => ?_) (fun r _ L0 h0 _ => h0) (h.slot j)
      subst e'
      exact e (getD_disj h.nodup hk hgL)
  · refine ⟨hos, htp, hou, by rw [hsz]; exact Nat.le_refl _, fun k hk hr => ho k fun e => ?_, fun _ h => h, fun _ h => .inl h, fun _ h => .inl h, fun _ _ => rfl⟩
    subst e
    exact hr r (by simp) hgL
theorem RCE_app {sz : Nat} : ∀ {l m : List R} {off : Nat}, RCE w RO sz g off l → RCE w RO sz g (off + l.length * sz) m → RCE w RO sz g off (l ++ m)
  | [], m, off, _, h => by simpa using h
  | x :: l, m, off, h, k => by
    refine ⟨h.1, RCE_app h.2 ?_⟩
    rwa [show off + sz + l.length * sz = off + (x :: l).length * sz by simp [Nat.add_mul]; omega]
theorem RCE_cells_same {sz : Nat} (hRO : ∀ k, RO k → w'.heap[k]? = w.heap[k]?) : ∀ {l : List R} {off : Nat}, RCE w RO sz g off l → (∀ j, j < l.length * sz → w'.cell? ⟨g, off + j, none⟩ = w.cell? ⟨g, off + j, none⟩) → RCE w' RO sz g off l
  | [], off, _, _ => trivial
  | x :: l, off, h, hc => by
    obtain ⟨⟨vs, h1, h2, h3⟩, h4⟩ := h
    have e : (x :: l).length * sz = sz + l.length * sz := by simp [Nat.add_mul]; omega
    refine ⟨⟨vs, h1, fun j v hj => ?_, RC_frame hRO (fun _ h => h) x vs h3⟩, RCE_cells_same hRO h4 fun j hj => ?_⟩
    · have : j < sz := by have := (List.getElem?_eq_some_iff.1 hj).1; omega
      rw [hc j (by omega)]; exact h2 j v hj
    · rw [show off + sz + j = off + (sz + j) by omega]; exact hc (sz + j) (by omega)
theorem run_copy' {t t2 ty e te : TypeId} {i : TypeInfo} (ht : P.underlying t = some (.slice e)) (hi : P.info? e = some i) {o dLen dCap sLen sCap : Nat} {ad : Option Addr} {cur : Array Value} {news : List Value}
    (hg : w.heap[g]? = some (.cells cur te (0, 0))) (hf : (Builtin.firstCells i.size (Nat.min sLen dLen) (.slice ad sLen sCap)).run P w = .ok news.toArray w) (h1 : ∀ u ∈ news, u.oneCell' = true) (hfit : o + news.length ≤ cur.size) :
    (Builtin.copy_ #[t, t2] ty #[.slice (some ⟨g, o, none⟩) dLen dCap, .slice ad sLen sCap]).run P w = .ok (goInt (Nat.min sLen dLen)) (w.setRow g (cur.toList.take o ++ news ++ cur.toList.drop (o + news.length)).toArray) := by
  have hst := run_storeCells_at P g o te news 0 cur w hg (by simpa using hfit) h1
  simp only [Nat.add_zero] at hst
  simp only [Builtin.copy_, List.getElem?_toArray]
  simp [run_underlying ht, sizeOf, typeInfo, hi, Builtin.lenOf, hf, hst]
theorem run_copy0 {t t2 ty e : TypeId} {i : TypeInfo} (ht : P.underlying t = some (.slice e)) (hi : P.info? e = some i) {base ad : Option Addr} {dLen dCap sLen sCap : Nat} (h0 : Nat.min sLen dLen = 0) :
    (Builtin.copy_ #[t, t2] ty #[.slice base dLen dCap, .slice ad sLen sCap]).run P w = .ok (goInt 0) w := by
  have hl : ∀ (x : Addr), (loadCells x 0).run P w = .ok #[] w := fun x => by simpa using run_loadCells_list (P := P) w x [] (by simp)
  cases base <;> cases ad <;> simp [Builtin.copy_, run_underlying ht, Builtin.lenOf, Builtin.firstCells, sizeOf, typeInfo, hi, h0, storeCells, hl]
theorem set_same {α : Type} {l : List α} {k : Nat} {x : α} (h : l[k]? = some x) : l.set k x = l := by
  obtain ⟨h1, h2⟩ := List.getElem?_eq_some_iff.1 h
  rw [← h2]; exact List.set_getElem_self h1
theorem T_setCell_same {x y : T} {o : Nat} (h : x.cells[o]? = some y) : x.setCell o y = x := by
  cases x with
  | a l => simp only [T.cells] at h; simp only [T.setCell]; rw [set_same h]
  | tp b l => simp [T.cells] at h
  | r z => cases z with
    | a l => simp [T.cells] at h
    | _ =>
      simp only [T.cells] at h
      cases o with
      | zero => simp at h; subst h; rfl
      | succ o => simp at h
  | _ =>
    simp only [T.cells] at h
    cases o with
    | zero => simp at h; subst h; rfl
    | succ o => simp at h
theorem R_setCell_same {x y : R} {o : Nat} (h : x.cells[o]? = some y) : x.setCell o y = x := by
  cases x with
  | a l => simp only [R.cells] at h; simp only [R.setCell]; rw [set_same h]
  | _ =>
    simp only [R.cells] at h
    cases o with
    | zero => simp at h; subst h; rfl
    | succ o => simp at h
theorem setT_same : ∀ (q : Pth) (t c t' : T), getT re t q = some c → setT re t q c = some t' → t' = t := by
  intro q
  induction q with
  | nil =>
    intro t c t' h hs
    rw [setT_nil] at hs; cases hs
    have : getT re t [] = some t := by cases t <;> simp [getT]
    rw [this] at h; cases h; rfl
  | cons x q ih =>
    intro t c t' h hs
    cases t with
    | bx l =>
      cases x with
      | d k =>
        simp only [getT] at h
        simp only [setT] at hs
        cases hk : l[k]? with
        | none => simp [hk] at h
        | some y =>
          simp only [hk] at h hs
          split at hs
          · rename_i z hz
            cases hs
            rw [ih y c z h hz, set_same hk]
          · cases hs
      | _ => simp [setT] at hs
    | a l =>
      cases x with
      | t k =>
        simp only [getT] at h
        simp only [setT] at hs
        cases hk : l[k]? with
        | none => simp [hk] at h
        | some y =>
          simp only [hk] at h hs
          split at hs
          · rename_i z hz
            cases hs
            rw [ih y c z h hz, set_same hk]
          · cases hs
      | d k => simp [setT] at hs
      | e i sz k => cases q <;> simp [setT] at hs
    | tp b l =>
      cases x with
      | t k =>
        simp only [getT] at h
        simp only [setT] at hs
        cases hk : l[k]? with
        | none => simp [hk] at h
        | some y =>
          simp only [hk] at h hs
          split at hs
          · rename_i z hz
            cases hs
            rw [ih y c z h hz, set_same hk]
          · cases hs
      | d k => simp [setT] at hs
      | e i sz k => cases q <;> simp [setT] at hs
    | own fl sz l =>
      cases x with
      | e i sz' k =>
        cases q with
        | cons y q => simp [setT] at hs
        | nil =>
          cases c with
          | r c1 =>
            simp only [getT] at h
            simp only [setT] at hs
            split at hs
            · rename_i z hz1 hz2
              simp only [hz1, hz2] at h
              split at hs
              · rename_i y hy
                cases hs
                simp only [hy] at h
                simp only [Option.some.injEq, T.r.injEq] at h
                subst h
                rw [R_setCell_same hy]
                show T.own fl sz (l.set i z) = _
                rw [set_same (show l[i]? = some z from hz2)]
              · cases hs
            · cases hs
          | _ => simp [setT] at hs
      | _ => simp [setT] at hs
    | ow sz l =>
      cases x with
      | e i sz' k =>
        simp only [getT] at h
        simp only [setT] at hs
        split at hs
        · rename_i z hz1 hz2
          simp only [hz1, hz2] at h
          split at hs
          · rename_i y hy
            simp only [hy] at h
            split at hs
            · rename_i y' hy'
              cases hs
              rw [ih y c y' h hy', T_setCell_same hy, set_same hz2]
            · cases hs
          · cases hs
        · cases hs
      | _ => simp [setT] at hs
    | _ => cases x <;> (try cases q) <;> simp [setT] at hs
theorem op_copy {o : Oper} {t t2 : TypeId} {x y : Operand} {c : Call} (ho : o.op = .call c) (hc : c.callee = .builtin .copy) (ha : c.args.toList = [x, y]) (htys : c.argTypes.toList = [t, t2])
    {E : Env} (hE : E.A = re) (hti : E.ti = tiOf P) (h : Rel w RO Ls s a.tmps) {e : Eff} (he : evCopy E s o.dst t t2 (opd s x) (opd s y) = some e) : OpOK P w RO Ls a o e := by
  have hargs : c.args = #[x, y] := by have := congrArg List.toArray ha; simpa using this
  have htypes : c.argTypes = #[t, t2] := by have := congrArg List.toArray htys; simpa using this
  obtain ⟨callee, args, argTypes⟩ := c
  simp only at hc hargs htypes
  subst hc hargs htypes
  have hexec : ∀ v w', (Builtin.copy_ #[t, t2] o.type #[a.eval x, a.eval y]).run P w = .ok v w' → (execOp a.eval o).run P w = .ok (.value v) w' := by
    intro v w' hr
    simp [execOp, ho, resolve, invoke, builtin, hr]
  unfold evCopy at he
  split at he
  · cases he
  · simp only [Option.bind_eq_some_iff] at he
    obtain ⟨te, hte, ys, hys, n, hn, he⟩ := he
    obtain ⟨el, ie, hd, hte', hie, hsz, hby⟩ := slEl_ok hti hte
    obtain ⟨Lx, hX, _⟩ := opd_ok h x
    obtain ⟨Ly', hY, _⟩ := opd_ok h y
    split at he
    · cases he
    · rename_i hso
      simp only [Bool.and_eq_true] at hso
      have hseen := elems_ok h hE hY hys hso.1
      obtain ⟨adx, capx, hvx, hcx, _⟩ := lenT_ok h hE hX hn
      obtain ⟨ad, cap, hvy, hcy, hry⟩ := hseen
      split at he
      · rename_i r q sz wd hx
        rw [hx] at hX hso
        have hsz1 : sz = te.sz := eq_of_beq hso.2
        subst hsz1
        simp only [Option.bind_eq_some_iff, hE] at he
        obtain ⟨t0, hg, he⟩ := he
        split at he
        · rename_i fl z l
          split at he
          · cases he
          rename_i hz
          have hz := eq_of_beq hz
          subst hz
          simp only [Option.map_eq_some_iff] at he
          obtain ⟨s1, hs1, rfl⟩ := he
          obtain ⟨_, L0, L1, v1, h0, h1, hv1, hw⟩ := hX
          simp only [List.cons.injEq, and_true] at hv1
          obtain ⟨v', hTC⟩ := rel_place h hg rfl h0 h1
          have hmn : re.nmn (re.len ys) n = Nat.min ys.length n := rfl
          rw [hmn] at hs1 ⊢
          generalize hm : Nat.min ys.length n = m at hs1 ⊢
          have hmy : m ≤ ys.length := by rw [← hm]; exact Nat.min_le_left _ _
          have hmn' : m ≤ n := by rw [← hm]; exact Nat.min_le_right _ _
          have hseg : re.seg ys 0 m = ys.take m := by simp [re]
          rw [hseg] at hs1
          have hspl : re.spl l (wdOff wd) (ys.take m) = l.take (wdOff wd) ++ ys.take m ++ l.drop (wdOff wd + m) := by simp [re, Nat.min_eq_left hmy]
          rw [hspl] at hs1
          have hT0 : ∀ {w' : World}, TV w' RO Ls (.r (.i .i64 (m : Int))) (goInt m) .no := fun {w'} => TV_R rfl rfl
          rw [hvx, hvy] at hexec
          rcases Nat.eq_zero_or_pos m with hm0 | hmp
          · -- nothing
            have hrun := hexec _ _ (run_copy0 (P := P) hd hie (by rw [hm, hm0]))
            have hsame : s1 = s := by
              rw [hm0, List.take_zero, List.append_nil, Nat.add_zero, List.take_append_drop] at hs1
              obtain ⟨t', ht', hst⟩ := setP_slot hs1
              rw [hst, setT_same q _ _ t' hg ht']
              simp only [slot]
              by_cases hr : r < s.length
              · simp [List.getD_eq_getElem?_getD, hr]
              · rw [List.set_eq_of_length_le (by omega)]
            subst hm0
            subst hsame
            exact opP (t := .r (.i .i64 (0 : Nat))) (W1 := [r]) hrun h ((Ext.refl _ _ _).mono (by simp)) hT0 (by simp [Ly.bs]) (by simp [Ly.bs]) rfl (by
              intro x hx; simp only [List.mem_singleton] at hx; rcases hx with hx | hx
              · simp [hx]
              · exact List.mem_cons_of_mem _ hx)
          · obtain ⟨hpos, ⟨hl, hv2, hL⟩ | ⟨g, cp, cur, te2, hv2, hL, hgg, hle, hmx, hcs, hR⟩⟩ := hTC
            · -- a nil row shows nothing
              exfalso
              subst hL
              rw [hvx] at hv1
              cases wd with
              | none =>
                have : v1 = .slice none 0 0 := hw
                rw [this] at hv1
                simp only [Value.slice.injEq] at hv1
                omega
              | some x =>
                obtain ⟨o1, n1⟩ := x
                obtain ⟨_, _, ad1, cap1, hv3, _, h3⟩ := hw
                rw [hv3] at hv1
                simp only [Value.slice.injEq] at hv1
                rcases h3 with h3 | ⟨_, _, _, _, h3 | ⟨_, h3⟩, _⟩
                · omega
                · cases h3
                · cases h3
            · subst hL
              have hview : adx = some ⟨g, wdOff wd * te.sz, none⟩ ∧ wdOff wd + n ≤ l.length := by
                rw [hvx] at hv1
                cases wd with
                | none =>
                  have : v1 = .slice (some ⟨g, 0, none⟩) l.length cp := hw
                  rw [this] at hv1
                  simp only [Value.slice.injEq] at hv1
                  obtain ⟨h1, h2, _⟩ := hv1
                  exact ⟨by rw [h1]; simp [wdOff], by simp [wdOff]; omega⟩
                | some x =>
                  obtain ⟨o1, n1⟩ := x
                  obtain ⟨_, _, ad1, cap1, hv3, _, h3⟩ := hw
                  rw [hv3] at hv1
                  simp only [Value.slice.injEq] at hv1
                  rcases h3 with h3 | ⟨g1, off1, m1, c1, h3, h4, h5⟩
                  · omega
                  · have h6 : g1 = g ∧ off1 = 0 ∧ m1 = l.length := by
                      rcases h3 with h3 | ⟨_, h3⟩
                      · cases h3
                      · cases h3; exact ⟨rfl, rfl, rfl⟩
                    obtain ⟨rfl, rfl, rfl⟩ := h6
                    exact ⟨by rw [hv1.1, h4]; simp [wdOff], by simp [wdOff]; omega⟩
              obtain ⟨hadx, hfit⟩ := hview
              subst hadx
              generalize hoo : wdOff wd = oo at *
              have hye : ys ≠ [] := fun e => by rw [e] at hmy; simp at hmy; omega
              obtain ⟨gy, offy, hady, hRy⟩ := hry.resolve_left hye
              subst hady
              obtain ⟨news, hnews, hnc⟩ := RCN_of (RCE_take m hRy)
              have hnl := RCN_len hnews
              have htl : (ys.take m).length = m := by simp; omega
              rw [htl] at hnl
              have hfc := run_firstCells_some (P := P) w te.sz m ⟨gy, offy, none⟩ ys.length cap news hnl (fun j u hj => by rw [Addr.add_lit]; exact hnc j u hj)
              have hgL : g ∈ (Ls.getD r .no).bs := by
                simp only [List.getD_eq_getElem?_getD, h0, Option.getD_some]
                exact lyAt_bs q L0 _ h1 g (by simp [Ly.bs])
              have hro : ¬ RO g := (h.own g (getD_mem hgL)).2
              have e1 : (oo + m) * te.sz = oo * te.sz + m * te.sz := Nat.add_mul _ _ _
              have e2 : (oo + m) * te.sz ≤ l.length * te.sz := Nat.mul_le_mul_right _ (by omega)
              have e3 : l.length * te.sz ≤ cp * te.sz := Nat.mul_le_mul_right _ hle
              have hrun := hexec _ _ (run_copy' (P := P) hd hie hgg (by rw [hm, ← hsz]; exact hfc) (RCN_one hnews) (by omega))
              rw [hm] at hrun
              generalize hrow : (cur.toList.take (oo * te.sz) ++ news ++ cur.toList.drop (oo * te.sz + news.length)).toArray = row at hrun
              have hrs : row.size = cp * te.sz := by rw [← hrow]; simp; omega
              have hh : ∀ k, k ≠ g → (w.setRow g row).heap[k]? = w.heap[k]? := fun k hk => setRow_other w g k row hk
              have hhR : ∀ k, RO k → (w.setRow g row).heap[k]? = w.heap[k]? := fun k hk => hh k fun e => hro (e ▸ hk)
              have hcell : ∀ j, (w.setRow g row).cell? ⟨g, j, none⟩ = row[j]? := fun j => cell_setRow_same w g j cur row te2 (0, 0) hgg
              have hcell0 : ∀ j, w.cell? ⟨g, j, none⟩ = cur[j]? := fun j => by simp [World.cell?, hgg]
              have htk : (cur.toList.take (oo * te.sz)).length = oo * te.sz := by simp; omega
              have hlo : (l.take oo).length = oo := by simp; omega
              have hrowlo : ∀ j, j < oo * te.sz → row[j]? = cur[j]? := fun j hj => by
                rw [← hrow]
                simp only [List.getElem?_toArray]
                rw [List.append_assoc, List.getElem?_append_left (by omega), List.getElem?_take, if_pos hj]
                simp
              have hrowmid : ∀ j u, news[j]? = some u → row[oo * te.sz + j]? = some u := fun j u hj => by
                have hj' := (List.getElem?_eq_some_iff.1 hj).1
                rw [← hrow]
                simp only [List.getElem?_toArray]
                rw [List.append_assoc, List.getElem?_append_right (by omega), List.getElem?_append_left (by omega), htk, Nat.add_sub_cancel_left]
                exact hj
              have hrowhi : ∀ j, oo * te.sz + m * te.sz ≤ j → row[j]? = cur[j]? := fun j hj => by
                rw [← hrow]
                simp only [List.getElem?_toArray]
                rw [List.getElem?_append_right (by simp; omega), List.getElem?_drop]
                simp only [List.length_append, htk, hnl]
                rw [show oo * te.sz + m * te.sz + (j - (oo * te.sz + m * te.sz)) = j by omega]
                simp
              have hR' : RCE (w.setRow g row) RO te.sz g 0 (l.take oo ++ ys.take m ++ l.drop (oo + m)) := by
                refine RCE_app (RCE_app (RCE_cells_same hhR (RCE_take oo hR) fun j hj => ?_) (RCE_of (RCN_frame hhR (fun _ h => h) hnews) fun j u hj => ?_)) (RCE_cells_same hhR ?_ fun j hj => ?_)
                · rw [hlo] at hj
                  rw [hcell, hcell0, Nat.zero_add]; exact hrowlo j hj
                · rw [hlo, Nat.zero_add, hcell]; exact hrowmid j u hj
                · have := RCE_drop (oo + m) hR
                  rwa [show 0 + (l.take oo ++ ys.take m).length * te.sz = 0 + (oo + m) * te.sz by rw [List.length_append, hlo, htl]]
                · rw [hcell, hcell0]
                  refine hrowhi _ ?_
                  rw [List.length_append, hlo, htl]; omega
              obtain ⟨hR1, hX1⟩ := rel_row (te := te2) h hg h0 h1 hro hh rfl rfl rfl (by simp [World.setRow]) (setRow_heap w g cur row te2 (0, 0) hgg) hrs hR' (by simp; omega) hs1
              exact opP (t := .r (.i .i64 (m : Int))) (W1 := [r]) hrun hR1 hX1 hT0 (by simp [Ly.bs]) (by simp [Ly.bs]) rfl (by
                intro x hx; simp only [List.mem_singleton] at hx; rcases hx with hx | hx
                · simp [hx]
                · exact List.mem_cons_of_mem _ hx)
        · cases he
      · cases he
end
end Go.Os
set_option linter.unusedVariables false
namespace Go.Os
section
variable {P : Program} {w w' : World} {RO RO' : Nat → Prop} {Ls : List Ly} {s : List T} {tm : Array Value}
mutual
theorem shut_map {fp : Nat → Pth → T} {fv : Nat → Pth → Nat → Option (Nat × Nat) → T} : ∀ t : T, shut t = true → mapT fp fv t = t
  | .u, _ => rfl
  | .r _, _ => rfl
  | .own .., _ => rfl
  | .ow sz l, h => by simp [mapT, shut_mapL l (by simpa [shut] using h)]
  | .bx l, h => by simp [mapT, shut_mapL l (by simpa [shut] using h)]
  | .a l, h => by simp [mapT, shut_mapL l (by simpa [shut] using h)]
  | .p .., h => by simp [shut] at h
  | .v .., h => by simp [shut] at h
  | .cp .., h => by simp [shut] at h
  | .f .., h => by simp [shut] at h
  | .tp _ _, h => by simp [shut] at h
  termination_by structural x => x
theorem shut_mapL {fp : Nat → Pth → T} {fv : Nat → Pth → Nat → Option (Nat × Nat) → T} : ∀ l : List T, shutL l = true → mapL fp fv l = l
  | [], _ => rfl
  | t :: l, h => by
    simp only [shutL, Bool.and_eq_true] at h
    simp [mapL, shut_map t h.1, shut_mapL l h.2]
  termination_by structural x => x
end
mutual
theorem shut_roots : ∀ t : T, shut t = true → roots t = []
  | .u, _ => rfl
  | .r _, _ => rfl
  | .own .., _ => rfl
  | .ow sz l, h => by simp [roots, shut_rootsL l (by simpa [shut] using h)]
  | .bx l, h => by simp [roots, shut_rootsL l (by simpa [shut] using h)]
  | .a l, h => by simp [roots, shut_rootsL l (by simpa [shut] using h)]
  | .p .., h => by simp [shut] at h
  | .v .., h => by simp [shut] at h
  | .cp .., h => by simp [shut] at h
  | .f .., h => by simp [shut] at h
  | .tp _ _, h => by simp [shut] at h
  termination_by structural x => x
theorem shut_rootsL : ∀ l : List T, shutL l = true → rootsL l = []
  | [], _ => rfl
  | t :: l, h => by
    simp only [shutL, Bool.and_eq_true] at h
    simp [rootsL, shut_roots t h.1, shut_rootsL l h.2]
  termination_by structural x => x
end
theorem TV_nil {t : T} {v : Value} {L : Ly} (h : TV w RO [] t v L) : TV w RO Ls t v L := by
  have := TV_map (fp := .p) (fv := .v) (Ls' := Ls) (fun _ _ => rfl) (fun _ h => h) (fun _ _ => rfl) (by simp) (by simp) (by simp) (by simp)
    ⟨fun r _ q L0 g o h0 => by simp at h0, fun r _ q sz wd L0 L1 x h0 => by simp at h0⟩ h
  rwa [mapT_id] at this
theorem TV_shut {t : T} {v : Value} {L : Ly} (hs : shut t = true) (h : TV w RO Ls t v L) : TV w RO [] t v L := by
  have := TV_map (fp := .p) (fv := .v) (Ls' := []) (fun _ _ => rfl) (fun _ h => h) (fun _ _ => rfl) (by simp) (by simp) (by simp) (by simp)
    ⟨fun r hr => by rw [shut_roots t hs] at hr; simp at hr, fun r hr => by rw [shut_roots t hs] at hr; simp at hr⟩ h
  rwa [mapT_id] at this
mutual
theorem noRo_any : ∀ (x : R) (vs : List Value), noRo x = true → RC w RO x vs → RC w RO' x vs
  | .b _, _, _, h => h
  | .i .., _, _, h => h
  | .s _, _, _, h => h
  | .pn, _, _, h => h
  | .sn, _, _, h => h
  | .fn, _, _, h => h
  | .a l, vs, hn, h => noRo_anyL l vs (by simpa [noRo] using hn) h
  | .ro .., _, hn, _ => by simp [noRo] at hn
  termination_by structural x => x
theorem noRo_anyL : ∀ (l : List R) (vs : List Value), noRoL l = true → RCL w RO l vs → RCL w RO' l vs
  | [], _, _, h => h
  | x :: l, vs, hn, h => by
    simp only [noRoL, Bool.and_eq_true] at hn
    obtain ⟨v, vs', hv, h1, h2⟩ := h
    exact ⟨v, vs', hv, noRo_any x [v] hn.1 h1, noRo_anyL l vs' hn.2 h2⟩
  termination_by structural x => x
end
mutual
theorem fresh_any : ∀ (t : T) (vs : List Value) (L : Ly), fresh t = true → TC w RO Ls t vs L → TC w RO' Ls t vs L
  | .r x, vs, L, hf, h => ⟨noRo_any x vs (by simpa [fresh] using hf) h.1, h.2⟩
  | .bx l, vs, L, hf, h => by
    obtain ⟨g, off, cs, cur, e, hv, hL, hg, h4⟩ := h
    exact ⟨g, off, cs, cur, e, hv, hL, hg, fresh_anyC l off cs (by simpa [fresh] using hf) h4⟩
  | .a l, vs, L, hf, h => by
    obtain ⟨cs, hL, h⟩ := h
    exact ⟨cs, hL, fresh_anyL l vs cs (by simpa [fresh] using hf) h⟩
  | .tp b l, vs, L, hf, h => by
    obtain ⟨tv, cs, hv, hL, h⟩ := h
    exact ⟨tv, cs, hv, hL, fresh_anyL l tv.toList cs (by simpa [fresh] using hf) h⟩
  | .u, _, _, hf, _ => by simp [fresh] at hf
  | .own .., _, _, hf, _ => by simp [fresh] at hf
  | .ow .., _, _, hf, _ => by simp [fresh] at hf
  | .p .., _, _, hf, _ => by simp [fresh] at hf
  | .v .., _, _, hf, _ => by simp [fresh] at hf
  | .cp .., _, _, hf, _ => by simp [fresh] at hf
  | .f .., _, _, hf, _ => by simp [fresh] at hf
  termination_by structural x => x
theorem fresh_anyL : ∀ (l : List T) (vs : List Value) (cs : List Ly), freshL l = true → TCL w RO Ls l vs cs → TCL w RO' Ls l vs cs
  | [], _, _, _, h => h
  | t :: l, vs, cs, hf, h => by
    simp only [freshL, Bool.and_eq_true] at hf
    obtain ⟨v, vs', L, cs', hv, hc, h1, h2⟩ := h
    exact ⟨v, vs', L, cs', hv, hc, fresh_any t [v] L hf.1 h1, fresh_anyL l vs' cs' hf.2 h2⟩
  termination_by structural x => x
theorem fresh_anyC {g : Nat} : ∀ (l : List T) (off : Nat) (cs : List Ly), freshL l = true → TCC w RO Ls g off l cs → TCC w RO' Ls g off l cs
  | [], _, _, _, h => h
  | t :: l, off, cs, hf, h => by
    simp only [freshL, Bool.and_eq_true] at hf
    obtain ⟨v, L, cs', hc, h0, h1, h2⟩ := h
    exact ⟨v, L, cs', hc, h0, fresh_any t [v] L hf.1 h1, fresh_anyC l (off + 1) cs' hf.2 h2⟩
  termination_by structural x => x
end
theorem fresh_anyV {t : T} {v : Value} {L : Ly} (hf : fresh t = true) (h : TV w RO Ls t v L) : TV w RO' Ls t v L := by
  cases t with
  | a l =>
    obtain ⟨vs, cs, hv, hL, h⟩ := h
    exact ⟨vs, cs, hv, hL, fresh_anyL l vs.toList cs (by simpa [fresh] using hf) h⟩
  | r x =>
    refine ⟨?_, h.2⟩
    have h1 := h.1
    cases x with
    | a l =>
      obtain ⟨vs, hv, h1⟩ := h1
      exact ⟨vs, hv, noRo_anyL l vs.toList (by simpa [fresh, noRo] using hf) h1⟩
    | _ => exact noRo_any (RO := RO) _ [v] (by simpa [fresh] using hf) h1
  | _ => exact fresh_any (RO := RO) _ [v] L hf h
structure Clo (w : World) (RO : Nat → Prop) (ts : List T) (vs : Array Value) (Lc : List Ly) : Prop where
  len : vs.size = ts.length
  lenL : Lc.length = ts.length
  slot : ∀ j, TV w RO [] (slot ts j) (vs.getD j undef) (Lc.getD j .no)
  nodup : (Ly.bsL Lc).Nodup
  own : ∀ g ∈ Ly.bsL Lc, g < w.heap.size ∧ ¬ RO g
  ro : ∀ g, RO g → g < w.heap.size
theorem Clo.rel {ts : List T} {vs : Array Value} {Lc : List Ly} (h : Clo w RO ts vs Lc) : Rel w RO Lc ts vs :=
  ⟨h.len, h.lenL, fun j => TV_nil (h.slot j), h.nodup, h.own, h.ro⟩
def backArgs : List T → List (List T) → List T
  | [], _ => []
  | t :: l, bs => match t with
    | .bx _ => (match bs with
      | b :: bs => .bx b :: backArgs l bs
      | [] => .u :: backArgs l [])
    | .a _ => (match bs with
      | b :: bs => .a b :: backArgs l bs
      | [] => .u :: backArgs l [])
    | _ => .u :: backArgs l bs
def argT : T → Bool
  | .r _ => true
  | .bx l => shutL l
  | .a l => shutL l
  | .f _ [] => true
  | _ => false
structure CallPost (w : World) (RO : Nat → Prop) (Lc : List Ly) (args : List T) (vs : Array Value) (res : T × List (List T)) (w' : World) (RO' : Nat → Prop) (Lc' : List Ly) (L : Ly) (v : Value) : Prop where
  os : w'.os = w.os
  tape : w'.tape = w.tape
  output : w'.output = w.output
  size : w.heap.size ≤ w'.heap.size
  blk : ∀ k, k < w.heap.size → k ∉ Ly.bsL Lc → w'.heap[k]? = w.heap[k]?
  ro : ∀ g, RO g → RO' g
  ro' : ∀ g, RO' g → RO g ∨ g ∈ Ly.bsL Lc ∨ w.heap.size ≤ g
  back : Clo w' RO' (backArgs args res.2) vs Lc'
  old : ∀ g ∈ Ly.bsL Lc', g ∈ Ly.bsL Lc ∨ w.heap.size ≤ g
  val : TV w' RO' [] res.1 v L
  nd : L.bs.Nodup
  own : ∀ g ∈ L.bs, g ∉ Ly.bsL Lc' ∧ ¬ RO' g ∧ g < w'.heap.size ∧ (g ∈ Ly.bsL Lc ∨ w.heap.size ≤ g)
def CallOK (P : Program) (call : FuncId → List T → Option (T × List (List T))) : Prop :=
  ∀ f args res, call f args = some res → (∃ fn, P.funcs[f]? = some fn ∧ fn.body.isNone = false ∧ fn.name ≠ "runtime.NumGoroutine") ∧
    ∀ w RO Lc vs, Clo w RO args vs Lc → (∀ t ∈ args, argT t = true) →
      Calls P f vs w fun e w' => ∃ v RO' Lc' L, e = .returned v ∧ CallPost w RO Lc args vs res w' RO' Lc' L v
end
end Go.Os
set_option linter.unusedVariables false
namespace Go.Os
section
variable {P : Program} {w w' : World} {RO RO' : Nat → Prop} {Ls : List Ly} {s : List T} {tm : Array Value}
def Handed (s : List T) (tm : Array Value) : List T → List Value → List Nat → Prop
  | [], vs, rs => vs = [] ∧ rs = []
  | t :: l, vs, rs => ∃ v vs', vs = v :: vs' ∧ match t with
    | .bx cs => ∃ r rs', rs = r :: rs' ∧ slot s r = .bx cs ∧ tm.getD r undef = v ∧ shutL cs = true ∧ Handed s tm l vs' rs'
    | .a ys => ∃ r rs' i fl z m ws, rs = r :: rs' ∧ slot s r = .own fl z m ∧ ownIx ys = some i ∧ v = .agg ws ∧ tm.getD r undef = ws.toList.getD i undef ∧ shutL ys = true ∧ Handed s tm l vs' rs'
    | t => argT t = true ∧ Handed s tm l vs' rs
theorem slot_cons_zero (t : T) (l : List T) : slot (t :: l) 0 = t := rfl
theorem slot_cons_succ (t : T) (l : List T) (j : Nat) : slot (t :: l) (j + 1) = slot l j := rfl
def Parts (w : World) (RO : Nat → Prop) : List T → List Value → List Ly → Prop
  | [], vs, cs => vs = [] ∧ cs = []
  | t :: l, vs, cs => ∃ v vs' L cs', vs = v :: vs' ∧ cs = L :: cs' ∧ TV w RO [] t v L ∧ Parts w RO l vs' cs'
theorem Parts.len : ∀ {l : List T} {vs : List Value} {cs : List Ly}, Parts w RO l vs cs → vs.length = l.length ∧ cs.length = l.length
  | [], _, _, h => by rw [h.1, h.2]; exact ⟨rfl, rfl⟩
  | t :: l, vs, cs, h => by
    obtain ⟨v, vs', L, cs', hv, hc, _, h⟩ := h
    rw [hv, hc]; simp [h.len.1, h.len.2]
theorem Parts.slot : ∀ {l : List T} {vs : List Value} {cs : List Ly}, Parts w RO l vs cs → ∀ j, TV w RO [] (slot l j) (vs.getD j undef) (cs.getD j .no)
  | [], _, _, h, j => by rw [h.1, h.2]; simp [Os.slot]; rfl
  | t :: l, vs, cs, h, j => by
    obtain ⟨v, vs', L, cs', hv, hc, h1, h⟩ := h
    subst hv hc
    cases j with
    | zero => exact h1
    | succ j => exact h.slot j
def ownLs (L : Ly) : List T → List Ly
  | [] => []
  | y :: ys => match y with
    | .own .. => L :: ys.map fun _ => .no
    | _ => .no :: ownLs L ys
theorem bsL_no : ∀ (ys : List T), Ly.bsL (ys.map fun _ => Ly.no) = []
  | [] => rfl
  | _ :: l => by simp [Ly.bsL, Ly.bs, bsL_no l]
theorem ownLs_bs {L : Ly} : ∀ {ys : List T}, Ly.bsL (ownLs L ys) = [] ∨ Ly.bsL (ownLs L ys) = L.bs
  | [] => .inl rfl
  | y :: l => by
    have plain : Ly.bsL (.no :: ownLs L l) = [] ∨ Ly.bsL (.no :: ownLs L l) = L.bs := by
      simp only [Ly.bsL, Ly.bs, List.nil_append]; exact ownLs_bs
    cases y with
    | own fl z m => right; simp [ownLs, Ly.bsL, bsL_no]
    | _ => exact plain
def handLs (Ls : List Ly) : List T → List Nat → List Ly
  | [], _ => []
  | t :: l, rs => match t with
    | .bx _ => (match rs with
      | r :: rs => Ls.getD r .no :: handLs Ls l rs
      | [] => .no :: handLs Ls l [])
    | .a ys => (match rs with
      | r :: rs => .ag (ownLs (Ls.getD r .no) ys) :: handLs Ls l rs
      | [] => .no :: handLs Ls l [])
    | _ => .no :: handLs Ls l rs
theorem handLs_bs {Ls : List Ly} : ∀ {l : List T} {rs : List Nat} {g : Nat}, g ∈ Ly.bsL (handLs Ls l rs) → ∃ r ∈ rs, g ∈ (Ls.getD r .no).bs
  | [], _, _, h => by simp [handLs, Ly.bsL] at h
  | t :: l, rs, g, h => by
    have plain : g ∈ Ly.bsL (.no :: handLs Ls l rs) → ∃ r ∈ rs, g ∈ (Ls.getD r .no).bs := fun h => by
      simp only [Ly.bsL, Ly.bs, List.nil_append] at h
      exact handLs_bs h
    cases t with
    | bx cs =>
      cases rs with
      | nil =>
        simp only [handLs, Ly.bsL, Ly.bs, List.nil_append] at h
        exact handLs_bs h
      | cons r rs =>
        simp only [handLs, Ly.bsL, List.mem_append] at h
        rcases h with h | h
        · exact ⟨r, by simp, h⟩
        · obtain ⟨r', h1, h2⟩ := handLs_bs h
          exact ⟨r', by simp [h1], h2⟩
    | a ys =>
      cases rs with
      | nil =>
        simp only [handLs, Ly.bsL, Ly.bs, List.nil_append] at h
        exact handLs_bs h
      | cons r rs =>
        simp only [handLs, Ly.bsL, Ly.bs, List.mem_append] at h
        rcases h with h | h
        · rcases ownLs_bs (L := Ls.getD r .no) (ys := ys) with e | e
          · rw [e] at h; simp at h
          · rw [e] at h; exact ⟨r, by simp, h⟩
        · obtain ⟨r', h1, h2⟩ := handLs_bs h
          exact ⟨r', by simp [h1], h2⟩
    | _ => exact plain h
theorem handLs_nodup {Ls : List Ly} (hnd : (Ly.bsL Ls).Nodup) (hL : ∀ r, (Ls.getD r .no).bs.Nodup) : ∀ {l : List T} {rs : List Nat}, rs.Nodup → (Ly.bsL (handLs Ls l rs)).Nodup
  | [], _, _ => by simp [handLs, Ly.bsL]
  | t :: l, rs, h => by
    have plain : (Ly.bsL (.no :: handLs Ls l rs)).Nodup := by
      simp only [Ly.bsL, Ly.bs, List.nil_append]
      exact handLs_nodup hnd hL h
    cases t with
    | bx cs =>
      cases rs with
      | nil =>
        simp only [handLs, Ly.bsL, Ly.bs, List.nil_append]
        exact handLs_nodup hnd hL h
      | cons r rs =>
        simp only [List.nodup_cons] at h
        simp only [handLs, Ly.bsL, List.nodup_append]
        refine ⟨hL r, handLs_nodup hnd hL h.2, fun x hx y hy e => ?_⟩
        subst e
        obtain ⟨r', h1, h2⟩ := handLs_bs hy
        exact h.1 (getD_disj hnd hx h2 ▸ h1)
    | a ys =>
      cases rs with
      | nil =>
        simp only [handLs, Ly.bsL, Ly.bs, List.nil_append]
        exact handLs_nodup hnd hL h
      | cons r rs =>
        simp only [List.nodup_cons] at h
        simp only [handLs, Ly.bsL, Ly.bs, List.nodup_append]
        refine ⟨?_, handLs_nodup hnd hL h.2, fun x hx y hy e => ?_⟩
        · rcases ownLs_bs (L := Ls.getD r .no) (ys := ys) with e | e
          · rw [e]; exact List.nodup_nil
          · rw [e]; exact hL r
        · subst e
          obtain ⟨r', h1, h2⟩ := handLs_bs hy
          have hx' : x ∈ (Ls.getD r .no).bs := by
            rcases ownLs_bs (L := Ls.getD r .no) (ys := ys) with e | e
            · rw [e] at hx; simp at hx
            · rw [e] at hx; exact hx
          exact h.1 (getD_disj hnd hx' h2 ▸ h1)
    | _ => exact plain
def ArgsV (w : World) (RO : Nat → Prop) (Ls : List Ly) : List T → List Value → Prop
  | [], vs => vs = []
  | t :: l, vs => ∃ v vs' L, vs = v :: vs' ∧ TV w RO Ls t v L ∧ L.bs = [] ∧ ArgsV w RO Ls l vs'
theorem boxOf_ok (h : Rel w RO Ls s tm) {x : T} {v : Value} {L : Ly} (hT : TV w RO Ls x v L) {r : Nat} {cs : List T} (hb : boxOf s x = some (r, cs)) :
    slot s r = .bx cs ∧ tm.getD r undef = v ∧ shutL cs = true := by
  unfold boxOf at hb
  split at hb
  · rename_i r' q
    split at hb
    · rename_i o
      split at hb
      · split at hb
        · rename_i cs' hs
          split at hb
          · rename_i hsh
            cases hb
            refine ⟨hs, ?_, hsh⟩
            obtain ⟨_, L0, g, o, h0, h1, h2⟩ := hT
            have hr := h.slot r
            rw [hs] at hr
            have hL0 : Ls.getD r .no = L0 := by simp [List.getD_eq_getElem?_getD, h0]
            rw [hL0] at hr
            obtain ⟨gb, off, cs2, cur, e, hv, hL, _⟩ := hr
            rw [hL] at h1
            simp only [adAt, Option.some.injEq, Prod.mk.injEq] at h1
            simp only [List.cons.injEq, and_true] at h2 hv
            rw [hv, h2, ← h1.1, ← h1.2]; simp
          · cases hb
        · cases hb
      · cases hb
    · cases hb
  · cases hb
theorem ownParts_ok (h : Rel w RO Ls s tm) {RO2 RO3 : Nat → Prop} {Ls2 : List Ly} {s2 : List T} (h2 : Rel w RO2 Ls2 s2 tm) (hro2 : ∀ g, RO2 g → RO3 g) :
    ∀ (l ys : List T) (rs : List Nat) (vs : List Value) (cs : List Ly), ownParts s l = some (ys, rs) → TCL w RO Ls l vs cs → (∀ r ∈ rs, slot s2 r = slot s r) →
      shutL ys = true ∧ (rs = [] → ownIx ys = none ∧ TCL w RO3 [] ys vs (ys.map fun _ => .no)) ∧
        ∀ r, rs = [r] → ∃ i fl z m, slot s2 r = .own fl z m ∧ ownIx ys = some i ∧ tm.getD r undef = vs.getD i undef ∧ TCL w RO3 [] ys vs (ownLs (Ls2.getD r .no) ys)
  | [], ys, rs, vs, cs, hd, hT, _ => by
    simp only [ownParts, Option.some.injEq, Prod.mk.injEq] at hd
    obtain ⟨rfl, rfl⟩ := hd
    exact ⟨rfl, fun _ => ⟨rfl, hT.1, rfl⟩, fun r hr => by cases hr⟩
  | x :: l, ys, rs, vs, cs, hd, hT, hs => by
    simp only [ownParts, Option.bind_eq_some_iff] at hd
    obtain ⟨⟨ys', rs'⟩, hrest, hd⟩ := hd
    obtain ⟨v, vs', L, cs', hv, hc, hT1, hT2⟩ := hT
    subst hv hc
    split at hd
    · rename_i y
      split at hd
      · rename_i hn
        cases hd
        obtain ⟨i1, i2, i3⟩ := ownParts_ok h h2 hro2 l ys' rs' vs' cs' hrest hT2 hs
        have hy : TC w RO3 [] (.r y) [v] .no := ⟨noRo_any y [v] hn hT1.1, .inl rfl⟩
        refine ⟨by simp [shutL, shut, i1], fun hr => ?_, fun r hr => ?_⟩
        · obtain ⟨j1, j2⟩ := i2 hr
          exact ⟨by simp [ownIx, j1], v, vs', .no, _, rfl, rfl, hy, j2⟩
        · obtain ⟨i, fl, z, m, j1, j2, j3, j4⟩ := i3 r hr
          exact ⟨i + 1, fl, z, m, j1, by simp [ownIx, j2], by simpa using j3, v, vs', .no, _, rfl, rfl, hy, j4⟩
      · cases hd
    · rename_i r0 q sz wd
      split at hd
      · split at hd
        · split at hd
          · rename_i fl z m hsl
            cases hd
            have hs1 : slot s2 r0 = .own fl z m := by rw [hs r0 (by simp), hsl]
            obtain ⟨i1, i2, i3⟩ := ownParts_ok h h2 hro2 l ys' rs' vs' cs' hrest hT2 fun r hr => hs r (by simp [hr])
            have hv : v = tm.getD r0 undef := by
              obtain ⟨_, L0, L1, v', h0, h1, hv', hw⟩ := hT1
              simp only [lyAt, Option.some.injEq] at h1
              subst h1
              simp only [List.cons.injEq, and_true] at hv'
              subst hv'
              have hr0 := h.slot r0
              rw [hsl, show Ls.getD r0 .no = L0 by simp [List.getD_eq_getElem?_getD, h0]] at hr0
              obtain ⟨_, hr0⟩ := hr0
              rcases hr0 with ⟨_, h5, h6⟩ | ⟨g, cap, cur, e, h5, h6, _⟩
              · rw [h6] at hw
                simp only [List.cons.injEq, and_true] at h5
                rw [h5]; exact hw
              · rw [h6] at hw
                simp only [List.cons.injEq, and_true] at h5
                rw [h5]; exact hw
            have hTb := h2.slot r0
            rw [hs1] at hTb
            have hTc : TV w RO3 [] (.own fl z m) (tm.getD r0 undef) (Ls2.getD r0 .no) :=
              TV_shut rfl (TV_frame (Ls' := Ls2) (fun _ _ => rfl) hro2 (fun _ _ => rfl) (fun r _ L0 h0 _ => h0) hTb)
            refine ⟨by simp [shutL, shut, i1], (fun hr => by cases hr), fun r hr => ?_⟩
            simp only [List.cons.injEq] at hr
            obtain ⟨rfl, hr⟩ := hr
            obtain ⟨j1, j2⟩ := i2 hr
            exact ⟨0, fl, z, m, hs1, rfl, by simp [hv], v, vs', _, _, rfl, rfl, by rw [hv]; exact hTc, j2⟩
          · cases hd
        · cases hd
      · cases hd
    · cases hd
theorem hand_ok {E : Env} (hE : E.A = re) (h : Rel w RO Ls s tm) {RO2 RO3 : Nat → Prop} {Ls2 : List Ly} {s2 : List T} (h2 : Rel w RO2 Ls2 s2 tm) (hro : ∀ g, RO g → RO3 g) (hro2 : ∀ g, RO2 g → RO3 g) :
    ∀ (args : List T) (ms : List Bool) (vs : List Value) (hh : List T × List Nat), handArgs E s ms args = some hh → ArgsV w RO Ls args vs → (∀ p ∈ lentL E s (stayA ms args), ∀ g, BlkAt Ls p g → RO3 g) → (∀ r ∈ hh.2, slot s2 r = slot s r) →
      Handed s2 tm hh.1 vs hh.2 ∧ Parts w RO3 hh.1 vs (handLs Ls2 hh.1 hh.2) ∧ hh.2.Nodup ∧ ∀ t ∈ hh.1, argT t = true
  | [], ms, vs, hh, hd, ha, _, _ => by
    simp only [handArgs, Option.some.injEq] at hd
    subst hd
    rw [show vs = [] from ha]
    exact ⟨⟨rfl, rfl⟩, ⟨rfl, rfl⟩, List.nodup_nil, by simp⟩
  | x :: l, ms, vs, hh, hd, ha, hl, hs => by
    obtain ⟨v, vs', L, hv, hT, hLb, ha⟩ := ha
    subst hv
    simp only [handArgs, Option.bind_eq_some_iff] at hd
    obtain ⟨rest, hrest, hd⟩ := hd
    have hl2 : ∀ p ∈ lentL E s (stayA ms.tail l), ∀ g, BlkAt Ls p g → RO3 g := fun p hp => hl p (by simp [stayA, lentL, hp])
    split at hd
    · split at hd
      · rename_i r ys hb
        split at hd
        · cases hd
        · rename_i hcn
          cases hd
          obtain ⟨i1, i2, i3, i4⟩ := hand_ok hE h h2 hro hro2 l _ vs' rest hrest ha hl2 fun r' hr' => hs r' (by simp [hr'])
          unfold ownArg at hb
          split at hb
          · rename_i l0
            simp only [Option.bind_eq_some_iff] at hb
            obtain ⟨⟨ys', rs'⟩, hp, hb⟩ := hb
            split at hb
            · rename_i r' hr'
              cases hb
              simp only at hr'
              subst hr'
              obtain ⟨ws, cs, hvw, hLc, hTl⟩ := hT
              obtain ⟨j1, _, j3⟩ := ownParts_ok h h2 hro2 l0 _ _ _ _ hp hTl fun r'' hr'' => hs r'' (by simp only [List.mem_singleton] at hr''; simp [hr''])
              obtain ⟨i, fl, z, m, k1, k2, k3, k4⟩ := j3 r rfl
              refine ⟨⟨v, vs', rfl, r, rest.2, i, fl, z, m, ws, rfl, k1, k2, hvw, k3, j1, i1⟩, ⟨v, vs', _, _, rfl, rfl, ⟨ws, _, hvw, rfl, k4⟩, i2⟩, ?_, ?_⟩
              · simp only [List.nodup_cons]
                refine ⟨fun hm => ?_, i3⟩
                have : rest.2.contains r = true := by simpa using hm
                rw [this] at hcn; cases hcn
              · intro t ht
                simp only [List.mem_cons] at ht
                rcases ht with rfl | ht
                · simpa [argT] using j1
                · exact i4 t ht
            · cases hb
          · cases hb
      · cases hd
    · rename_i hm
      have hst : stayA ms (x :: l) = x :: stayA ms.tail l := by
        cases ms with
        | nil => rfl
        | cons b ms => cases b with
          | true => exact absurd rfl (hm _)
          | false => rfl
      have hl1 : ∀ p ∈ lent E s x, ∀ g, BlkAt Ls p g → RO3 g := fun p hp => hl p (by rw [hst]; simp [lentL, hp])
      split at hd
      · rename_i y hy
        cases hd
        have hs' : ∀ r ∈ rest.2, slot s2 r = slot s r := hs
        obtain ⟨i1, i2, i3, i4⟩ := hand_ok hE h h2 hro hro2 l _ vs' rest hrest ha hl2 hs'
        refine ⟨⟨v, vs', rfl, rfl, i1⟩, ⟨v, vs', .no, _, rfl, rfl, ⟨frz_ok h hro hE hT hy hl1, .inl rfl⟩, i2⟩, i3, ?_⟩
        intro t ht
        simp only [List.mem_cons] at ht
        rcases ht with rfl | ht
        · rfl
        · exact i4 t ht
      · split at hd
        · rename_i g hg
          cases hd
          obtain ⟨i1, i2, i3, i4⟩ := hand_ok hE h h2 hro hro2 l _ vs' rest hrest ha hl2 hs
          unfold bareF at hg
          split at hg
          · rename_i g' c
            split at hg
            · cases hg
              obtain ⟨hL, cv, hvv, hcv⟩ := hT
              refine ⟨⟨v, vs', rfl, rfl, i1⟩, ⟨v, vs', .no, _, rfl, rfl, ⟨rfl, cv, hvv, hcv⟩, i2⟩, i3, ?_⟩
              intro t ht
              simp only [List.mem_cons] at ht
              rcases ht with rfl | ht
              · rfl
              · exact i4 t ht
            · cases hg
          · cases hg
        · split at hd
          · rename_i r ys hb
            split at hd
            · cases hd
            · rename_i hc
              cases hd
              obtain ⟨i1, i2, i3, i4⟩ := hand_ok hE h h2 hro hro2 l _ vs' rest hrest ha hl2 fun r' hr' => hs r' (by simp [hr'])
              obtain ⟨hb1, hb2, hb3⟩ := boxOf_ok h hT hb
              have hsl : slot s2 r = .bx ys := by rw [hs r (by simp), hb1]
              have hTb := h2.slot r
              rw [hsl, hb2] at hTb
              have hTc : TV w RO3 [] (.bx ys) v (Ls2.getD r .no) :=
                TV_shut (by simpa [shut] using hb3) (TV_frame (Ls' := Ls2) (fun _ _ => rfl) hro2 (fun _ _ => rfl) (fun r _ L0 h0 _ => h0) hTb)
              refine ⟨⟨v, vs', rfl, r, rest.2, rfl, hsl, hb2, hb3, i1⟩, ⟨v, vs', _, _, rfl, rfl, hTc, i2⟩, ?_, ?_⟩
              · simp only [List.nodup_cons]
                refine ⟨fun hm => ?_, i3⟩
                have : rest.2.contains r = true := by simpa using hm
                rw [this] at hc; cases hc
              · intro t ht
                simp only [List.mem_cons] at ht
                rcases ht with rfl | ht
                · simpa [argT] using hb3
                · exact i4 t ht
          · cases hd
def lyBs : List T → List Ly → List Ly
  | [], _ => []
  | t :: l, cs => match t with
    | .bx _ => cs.headD .no :: lyBs l cs.tail
    | .a ys => (match ownIx ys, cs.headD .no with
      | some i, .ag c => c.getD i .no
      | _, _ => .no) :: lyBs l cs.tail
    | _ => lyBs l cs.tail
theorem bs_part : ∀ (c : List Ly) (i : Nat), (c.getD i .no).bs.Sublist (Ly.bsL c)
  | [], i => by simp [Ly.bs]
  | L :: c, 0 => by simp [Ly.bsL]
  | L :: c, i + 1 => by
    simp only [Ly.bsL, List.getD_cons_succ]
    exact (bs_part c i).trans (List.sublist_append_right _ _)
theorem lyBs_sub : ∀ (args : List T) (cs : List Ly), (Ly.bsL (lyBs args cs)).Sublist (Ly.bsL cs)
  | [], cs => List.nil_sublist _
  | t :: l, [] => by
    have plain : (Ly.bsL (lyBs l [])).Sublist (Ly.bsL []) := lyBs_sub l []
    cases t with
    | bx c => simpa [lyBs, Ly.bsL, Ly.bs] using plain
    | a ys =>
      simp only [lyBs, List.headD_nil, List.tail_nil]
      cases ownIx ys <;> simpa [Ly.bsL, Ly.bs] using plain
    | _ => exact plain
  | t :: l, L :: cs => by
    have ih := lyBs_sub l cs
    have plain : (Ly.bsL (lyBs l cs)).Sublist (Ly.bsL (L :: cs)) := by
      simp only [Ly.bsL]
      exact ih.trans (List.sublist_append_right _ _)
    cases t with
    | bx c =>
      simp only [lyBs, List.headD_cons, List.tail_cons, Ly.bsL]
      exact List.Sublist.append (List.Sublist.refl _) ih
    | a ys =>
      simp only [lyBs, List.headD_cons, List.tail_cons]
      cases hi : ownIx ys with
      | none => simpa [Ly.bsL, Ly.bs] using plain
      | some i => cases L with
        | ag c =>
          simp only [Ly.bsL, Ly.bs]
          exact List.Sublist.append (bs_part c i) ih
        | _ => simpa [Ly.bsL, Ly.bs] using plain
    | _ => exact plain
theorem TCL_part : ∀ {l : List T} {vs : List Value} {cs : List Ly}, TCL w RO Ls l vs cs → ∀ (i : Nat) (t : T), l[i]? = some t → ∃ v L, vs[i]? = some v ∧ cs[i]? = some L ∧ TC w RO Ls t [v] L
  | [], _, _, _, i, t, h => by simp at h
  | x :: l, vs, cs, h, i, t, hi => by
    obtain ⟨v, vs', L, cs', rfl, rfl, h1, h2⟩ := h
    cases i with
    | zero => simp only [List.getElem?_cons_zero, Option.some.injEq] at hi; subst hi; exact ⟨v, L, rfl, rfl, h1⟩
    | succ i => simpa using TCL_part h2 i t (by simpa using hi)
theorem slot_own {s : List T} {i : Nat} {fl : Bool} {z : Nat} {m : List R} (h : slot s i = .own fl z m) : s[i]? = some (.own fl z m) := by
  unfold slot at h
  rw [List.getD_eq_getElem?_getD] at h
  cases hs : s[i]? with
  | none => rw [hs] at h; simp at h
  | some t => rw [hs] at h; simpa using h
theorem back_ok : ∀ {args : List T} {vs : List Value} {rs : List Nat} {bs : List (List T)} {ts : List T} {cs : List Ly}, Handed s tm args vs rs → backTs args bs = some ts → Parts w RO (backArgs args bs) vs cs →
    ts.length = rs.length ∧ ∀ (k r : Nat), rs[k]? = some r → ∃ t L, ts[k]? = some t ∧ (lyBs args cs)[k]? = some L ∧ TV w RO [] t (tm.getD r undef) L ∧
      ((∃ b c, t = .bx b ∧ slot s r = .bx c) ∨ ∃ fl z m fl' z' m', t = .own fl z m ∧ slot s r = .own fl' z' m')
  | [], vs, rs, bs, ts, cs, h, hb, _ => by
    rw [h.2]
    unfold backTs at hb
    split at hb
    · cases hb; exact ⟨rfl, fun k r hk => by simp at hk⟩
    · cases hb
  | t :: l, vs, rs, bs, ts, cs, h, hb, hP => by
    obtain ⟨v, vs', hv, h⟩ := h
    have plain : ∀ {rs' : List Nat} {cs' : List Ly}, Handed s tm l vs' rs' → backTs l bs = some ts → Parts w RO (backArgs l bs) vs' cs' → _ := fun h1 h2 h3 => back_ok h1 h2 h3
    cases t with
    | bx c =>
      obtain ⟨r0, rs', hrs, h1, h2, h3, h⟩ := h
      subst hrs
      cases bs with
      | nil => simp [backTs] at hb
      | cons b bs =>
        simp only [backTs, Option.map_eq_some_iff] at hb
        obtain ⟨ts', hb, rfl⟩ := hb
        simp only [backArgs] at hP
        obtain ⟨v1, vs1, L, cs', hv1, hc, hT, hP⟩ := hP
        subst hc
        rw [hv] at hv1
        simp only [List.cons.injEq] at hv1
        obtain ⟨rfl, rfl⟩ := hv1
        obtain ⟨i0, i1⟩ := back_ok h hb hP
        refine ⟨by simp [i0], fun k r hk => ?_⟩
        cases k with
        | zero =>
          simp only [List.getElem?_cons_zero, Option.some.injEq] at hk
          subst hk
          exact ⟨_, L, rfl, by simp [lyBs], by rw [h2]; exact hT, .inl ⟨b, c, rfl, h1⟩⟩
        | succ k =>
          simp only [List.getElem?_cons_succ] at hk
          obtain ⟨t', L', j1, j2, j3, j4⟩ := i1 k r hk
          exact ⟨t', L', by simpa using j1, by simpa [lyBs] using j2, j3, j4⟩
    | a ys =>
      obtain ⟨r0, rs', i, fl, z, m, ws, hrs, h1, h2, h3, h4, h5, h⟩ := h
      subst hrs
      cases bs with
      | nil => simp [backTs] at hb
      | cons b bs =>
        simp only [backTs, h2] at hb
        split at hb
        · rename_i fl2 z2 m2 hsl
          simp only [Option.map_eq_some_iff] at hb
          obtain ⟨ts', hb, rfl⟩ := hb
          simp only [backArgs] at hP
          obtain ⟨v1, vs1, L, cs', hv1, hc, hT, hP⟩ := hP
          subst hc
          rw [hv] at hv1
          simp only [List.cons.injEq] at hv1
          obtain ⟨rfl, rfl⟩ := hv1
          obtain ⟨i0, i1⟩ := back_ok h hb hP
          refine ⟨by simp [i0], fun k r hk => ?_⟩
          cases k with
          | zero =>
            simp only [List.getElem?_cons_zero, Option.some.injEq] at hk
            subst hk
            obtain ⟨ws', c, hvw, hLc, hTl⟩ := hT
            rw [h3] at hvw
            cases hvw
            obtain ⟨vi, Li, g1, g2, g3⟩ := TCL_part hTl i _ (slot_own hsl)
            refine ⟨_, Li, rfl, ?_, ?_, .inr ⟨fl2, z2, m2, fl, z, m, rfl, h1⟩⟩
            · simp only [lyBs, List.headD_cons, h2, hLc, List.getElem?_cons_zero, Option.some.injEq]
              simp [List.getD_eq_getElem?_getD, g2]
            · rw [h4, show ws.toList.getD i undef = vi by simp only [List.getD_eq_getElem?_getD, g1, Option.getD_some]]
              exact g3
          | succ k =>
            simp only [List.getElem?_cons_succ] at hk
            obtain ⟨t', L', j1, j2, j3, j4⟩ := i1 k r hk
            exact ⟨t', L', by simpa using j1, by simpa [lyBs] using j2, j3, j4⟩
        · cases hb
    | _ =>
      obtain ⟨_, h⟩ := h
      simp only [backArgs] at hP
      obtain ⟨v1, vs1, L, cs', hv1, hc, hT, hP⟩ := hP
      subst hc
      rw [hv] at hv1
      simp only [List.cons.injEq] at hv1
      obtain ⟨rfl, rfl⟩ := hv1
      obtain ⟨i0, i1⟩ := back_ok h hb hP
      exact ⟨i0, fun k r hk => by simpa [lyBs] using i1 k r hk⟩
theorem Handed.slotOf : ∀ {args : List T} {vs : List Value} {rs : List Nat}, Handed s tm args vs rs → (∀ r ∈ rs, (∃ cs, slot s r = .bx cs ∧ r ∈ boxRs args rs) ∨ ∃ fl z m, slot s r = .own fl z m) ∧ ∀ r ∈ boxRs args rs, r ∈ rs ∧ ∃ cs, slot s r = .bx cs
  | [], vs, rs, h => by rw [h.2]; exact ⟨fun r hr => by simp at hr, fun r hr => by simp [boxRs] at hr⟩
  | t :: l, vs, rs, h => by
    obtain ⟨v, vs', hv, h⟩ := h
    cases t with
    | bx c =>
      obtain ⟨r0, rs', hrs, h1, _, _, h⟩ := h
      subst hrs
      obtain ⟨i1, i2⟩ := h.slotOf
      refine ⟨fun r hr => ?_, fun r hr => ?_⟩
      · simp only [List.mem_cons] at hr
        rcases hr with rfl | hr
        · exact .inl ⟨c, h1, by simp [boxRs]⟩
        · rcases i1 r hr with ⟨cs, j1, j2⟩ | j
          · exact .inl ⟨cs, j1, by simp [boxRs, j2]⟩
          · exact .inr j
      · simp only [boxRs, List.mem_cons] at hr
        rcases hr with rfl | hr
        · exact ⟨by simp, c, h1⟩
        · exact ⟨by simp [(i2 r hr).1], (i2 r hr).2⟩
    | a ys =>
      obtain ⟨r0, rs', i, fl, z, m, ws, hrs, h1, _, _, _, _, h⟩ := h
      subst hrs
      obtain ⟨i1, i2⟩ := h.slotOf
      refine ⟨fun r hr => ?_, fun r hr => ?_⟩
      · simp only [List.mem_cons] at hr
        rcases hr with rfl | hr
        · exact .inr ⟨fl, z, m, h1⟩
        · rcases i1 r hr with ⟨cs, j1, j2⟩ | j
          · exact .inl ⟨cs, j1, by simpa [boxRs] using j2⟩
          · exact .inr j
      · simp only [boxRs, List.tail_cons] at hr
        exact ⟨by simp [(i2 r hr).1], (i2 r hr).2⟩
    | _ =>
      obtain ⟨i1, i2⟩ := h.2.slotOf
      exact ⟨fun r hr => i1 r hr, fun r hr => i2 r hr⟩
theorem setAll_ok : ∀ {rs : List Nat} {bs : List T} {s s' : List T}, setAll s rs bs = some s' → rs.Nodup → bs.length = rs.length ∧ s'.length = s.length ∧ (∀ j, j ∉ rs → slot s' j = slot s j) ∧
    ∀ (k r : Nat) (b : T), rs[k]? = some r → bs[k]? = some b → r < s.length → slot s' r = b
  | [], bs, s, s', h, _ => by
    cases bs with
    | nil => simp only [setAll, Option.some.injEq] at h; subst h; exact ⟨rfl, rfl, fun _ _ => rfl, fun k r b hk => by simp at hk⟩
    | cons b bs => simp [setAll] at h
  | r :: rs, bs, s, s', h, hnd => by
    cases bs with
    | nil => simp [setAll] at h
    | cons b bs =>
      simp only [setAll] at h
      simp only [List.nodup_cons] at hnd
      obtain ⟨i1, i2, i3, i4⟩ := setAll_ok h hnd.2
      refine ⟨by simp [i1], by simpa using i2, fun j hj => ?_, fun k r' b' hk hb hlt => ?_⟩
      · simp only [List.mem_cons, not_or] at hj
        rw [i3 j hj.2, slot_set, if_neg (by simp [hj.1])]
      · cases k with
        | zero =>
          simp only [List.getElem?_cons_zero, Option.some.injEq] at hk hb
          subst hk hb
          rw [i3 r hnd.1, slot_set, if_pos ⟨rfl, hlt⟩]
        | succ k => exact i4 k r' b' (by simpa using hk) (by simpa using hb) (by simpa using hlt)
theorem deep_nil (s : List T) : mapL (deepP []) (deepV []) s = s := by
  have h1 : deepP [] = T.p := by funext r q; rfl
  have h2 : deepV [] = T.v := by funext r q sz w; rfl
  rw [h1, h2, mapL_id]
theorem Handed.nil {args : List T} {vs : List Value} (h : Handed s tm args vs []) : backTs args [] = some [] ∧ boxRs args [] = [] := by
  induction args generalizing vs with
  | nil => exact ⟨rfl, rfl⟩
  | cons t l ih =>
    obtain ⟨v, vs', hv, h⟩ := h
    cases t with
    | bx c => obtain ⟨r0, rs', hrs, _⟩ := h; cases hrs
    | a ys => obtain ⟨r0, rs', i, fl, z, m, ws, hrs, _⟩ := h; cases hrs
    | _ => exact ih h.2
theorem backBoxes_eq {s0 s : List T} {args : List T} {vs : List Value} {rs : List Nat} {bs : List (List T)} {s' : List T} (hh : Handed s0 tm args vs rs) (h : backBoxes s args rs bs = some s') :
    ∃ ts, backTs args bs = some ts ∧ setAll (mapL (deepP (boxRs args rs)) (deepV (boxRs args rs)) s) rs ts = some s' := by
  unfold backBoxes at h
  split at h
  · split at h
    · cases h; exact ⟨[], hh.nil.1, by rw [hh.nil.2, deep_nil]; rfl⟩
    · cases h
  · simp only [Option.bind_eq_some_iff] at h
    obtain ⟨ts, h1, h⟩ := h
    refine ⟨ts, h1, ?_⟩
    split at h
    · rename_i e; rw [e, deep_nil]; exact h
    · rename_i e; rw [e]; exact h
def backLs (Ls : List Ly) (args : List T) (rs : List Nat) (Lc : List Ly) : List Ly :=
  (List.range Ls.length).map fun j => match rs.idxOf? j with | some k => (lyBs args Lc).getD k .no | none => Ls.getD j .no
theorem idxOf_get : ∀ {rs : List Nat} {j k : Nat}, rs.idxOf? j = some k → rs[k]? = some j
  | [], _, _, h => by simp at h
  | r :: rs, j, k, h => by
    rw [List.idxOf?_cons] at h
    split at h
    · rename_i e
      cases h
      simpa using e
    · simp only [Option.map_eq_some_iff] at h
      obtain ⟨k', h1, rfl⟩ := h
      simpa using idxOf_get h1
theorem idxOf_none {rs : List Nat} {j : Nat} : rs.idxOf? j = none ↔ j ∉ rs := by
  simp [List.idxOf?_eq_none_iff]
theorem idxOf_some {rs : List Nat} {j : Nat} (h : j ∈ rs) : ∃ k, rs.idxOf? j = some k := by
  cases hk : rs.idxOf? j with
  | some k => exact ⟨k, rfl⟩
  | none => exact absurd h (idxOf_none.1 hk)
theorem backLs_getD {Ls : List Ly} {args : List T} {rs : List Nat} {Lc : List Ly} {j : Nat} (hj : j < Ls.length) :
    (backLs Ls args rs Lc).getD j .no = match rs.idxOf? j with | some k => (lyBs args Lc).getD k .no | none => Ls.getD j .no := by
  rw [backLs, List.getD_eq_getElem?_getD, List.getElem?_map, List.getElem?_range hj]
  rfl
theorem backLs_out {Ls : List Ly} {args : List T} {rs : List Nat} {Lc : List Ly} {j : Nat} (hj : j ∉ rs) : (backLs Ls args rs Lc).getD j .no = Ls.getD j .no := by
  by_cases hlt : j < Ls.length
  · rw [backLs_getD hlt, idxOf_none.2 hj]
  · rw [List.getD_eq_getElem?_getD, List.getD_eq_getElem?_getD, List.getElem?_eq_none (by simpa [backLs] using hlt), List.getElem?_eq_none (by omega)]
theorem Clo.parts {ts : List T} {vs : Array Value} {Lc : List Ly} (h : Clo w RO ts vs Lc) : Parts w RO ts vs.toList Lc := by
  have : ∀ (ts : List T) (vs : List Value) (Lc : List Ly), vs.length = ts.length → Lc.length = ts.length → (∀ j, TV w RO [] (Os.slot ts j) (vs.getD j undef) (Lc.getD j .no)) → Parts w RO ts vs Lc := by
    intro ts
    induction ts with
    | nil => intro vs Lc h1 h2 _; exact ⟨List.eq_nil_of_length_eq_zero h1, List.eq_nil_of_length_eq_zero h2⟩
    | cons t ts ih =>
      intro vs Lc h1 h2 h3
      cases vs with
      | nil => simp at h1
      | cons v vs =>
        cases Lc with
        | nil => simp at h2
        | cons L Lc =>
          exact ⟨v, vs, L, Lc, rfl, rfl, h3 0, ih vs Lc (by simpa using h1) (by simpa using h2) fun j => h3 (j + 1)⟩
  refine this ts vs.toList Lc (by simpa using h.len) h.lenL fun j => ?_
  have := h.slot j
  rwa [show vs.toList.getD j undef = vs.getD j undef by simp [Array.getD_eq_getD_getElem?, List.getD_eq_getElem?_getD]]
theorem Parts.clo {ts : List T} {vs : Array Value} {Lc : List Ly} (h : Parts w RO ts vs.toList Lc) (hnd : (Ly.bsL Lc).Nodup) (ho : ∀ g ∈ Ly.bsL Lc, g < w.heap.size ∧ ¬ RO g) (hr : ∀ g, RO g → g < w.heap.size) : Clo w RO ts vs Lc := by
  refine ⟨by simpa using h.len.1, h.len.2, fun j => ?_, hnd, ho, hr⟩
  have := h.slot j
  rwa [show vs.toList.getD j undef = vs.getD j undef by simp [Array.getD_eq_getD_getElem?, List.getD_eq_getElem?_getD]] at this
end
end Go.Os
set_option linter.unusedVariables false
namespace Go.Os
section
variable {P : Program} {w w' : World} {RO RO' : Nat → Prop} {Ls : List Ly} {a : Act} {s : List T} {tm : Array Value}
theorem deepP_a {rs r q l} : deepP rs r q ≠ .a l := by unfold deepP; split <;> simp
theorem deepP_r {rs r q x} : deepP rs r q ≠ .r x := by unfold deepP; split <;> simp
theorem deepV_a {rs r q sz w l} : deepV rs r q sz w ≠ .a l := by unfold deepV; split <;> simp
theorem deepV_r {rs r q sz w x} : deepV rs r q sz w ≠ .r x := by unfold deepV; split <;> simp
theorem getD_some {α : Type} {l : List α} {k : Nat} {x d : α} (h : l[k]? = some x) : l.getD k d = x := by simp [List.getD_eq_getElem?_getD, h]
theorem getD_nodup {Ls : List Ly} (h : (Ly.bsL Ls).Nodup) (r : Nat) : (Ls.getD r .no).bs.Nodup := by
  rw [List.getD_eq_getElem?_getD]
  cases hr : Ls[r]? with
  | none => simp [Ly.bs]
  | some L => simpa using nodup_of_get h hr
theorem rel_back {args : List T} {vs : Array Value} {rs : List Nat} {res : T × List (List T)} {Lc : List Ly} {L : Ly} {v : Value} {s3 : List T}
    (h : Rel w RO Ls s tm) (hh : Handed s tm args vs.toList rs) (hnd : rs.Nodup) (hp : CallPost w RO (handLs Ls args rs) args vs res w' RO' Lc L v) (hs : backBoxes s args rs res.2 = some s3) :
    ∃ Ls', Rel w' RO' Ls' s3 tm ∧ Ext w RO Ls rs w' RO' Ls' ∧ (∀ g ∈ L.bs, g ∉ Ly.bsL Ls') := by
  obtain ⟨ts, hts, hs⟩ := backBoxes_eq hh hs
  obtain ⟨hlen, hl3, hout, hin⟩ := setAll_ok hs hnd
  simp only [mapL_length] at hl3
  obtain ⟨hso, hrb⟩ := hh.slotOf
  have hlt : ∀ r ∈ rs, r < s.length := fun r hr => by
    rcases Nat.lt_or_ge r s.length with h | h
    · exact h
    · rcases hso r hr with ⟨cs, hc, _⟩ | ⟨fl, z, m, hc⟩
      · rw [slot_ge h] at hc; cases hc
      · rw [slot_ge h] at hc; cases hc
  have hback := hp.back.parts
  obtain ⟨_, hbk⟩ := back_ok hh hts hback
  have hin2 : ∀ r ∈ rs, ∃ k b M, rs.idxOf? r = some k ∧ slot s3 r = b ∧ (lyBs args Lc)[k]? = some M ∧ TV w' RO' [] b (tm.getD r undef) M ∧ (backLs Ls args rs Lc).getD r .no = M ∧
      ((∃ b' c, b = .bx b' ∧ slot s r = .bx c) ∨ ∃ fl z m fl' z' m', b = .own fl z m ∧ slot s r = .own fl' z' m') := by
    intro r hr
    obtain ⟨k, hk⟩ := idxOf_some hr
    have hk2 := idxOf_get hk
    obtain ⟨b, M, h1, h2, h3, h4⟩ := hbk k r hk2
    refine ⟨k, b, M, hk, hin k r b hk2 h1 (by rw [mapL_length]; exact hlt r hr), h2, h3, ?_, h4⟩
    rw [backLs_getD (by rw [h.lenL]; exact hlt r hr), hk]
    exact getD_some h2
  have hout2 : ∀ j, j ∉ rs → (backLs Ls args rs Lc).getD j .no = Ls.getD j .no := fun j hj => backLs_out hj
  have hcs : ∀ g, g ∈ Ly.bsL (handLs Ls args rs) → ∃ r ∈ rs, g ∈ (Ls.getD r .no).bs := fun g hg => handLs_bs hg
  have hheap : ∀ g, g < w.heap.size → (∀ r ∈ rs, g ∉ (Ls.getD r .no).bs) → w'.heap[g]? = w.heap[g]? := fun g hg hr =>
    hp.blk g hg fun hm => by obtain ⟨r, h1, h2⟩ := hcs g hm; exact hr r h1 h2
  have hROsame : ∀ g, RO g → w'.heap[g]? = w.heap[g]? := fun g hg => hheap g (h.ro g hg) fun r _ hm => (h.own g (getD_mem hm)).2 hg
  have hblk : ∀ j, j ∉ rs → ∀ g ∈ (Ls.getD j .no).bs, w'.heap[g]? = w.heap[g]? := fun j hj g hg => hheap g (h.own g (getD_mem hg)).1 fun r hr hm => hj (getD_disj h.nodup hg hm ▸ hr)
  have hget : ∀ (Ms : List Ly) (r : Nat), r < Ms.length → Ms[r]? = some (Ms.getD r .no) := fun Ms r hr => by
    rw [List.getD_eq_getElem?_getD, List.getElem?_eq_getElem hr]; rfl
  have hbl : (backLs Ls args rs Lc).length = Ls.length := by simp [backLs]
  have hsame : ∀ r ∈ boxRs args rs, ∀ L0 q g o, Ls[r]? = some L0 → adAt L0 q = some (g, o) → q.length ≤ 1 → ∃ L1, (backLs Ls args rs Lc)[r]? = some L1 ∧ adAt L1 q = some (g, o) := by
    intro r hrb' L0 q g o h0 had hq
    obtain ⟨hr, cs, hc⟩ := hrb r hrb'
    obtain ⟨k, b, M, hk, hsl, hM, hT, hgM, hkind⟩ := hin2 r hr
    refine ⟨M, by rw [hget _ r (by rw [hbl, h.lenL]; exact hlt r hr), hgM], ?_⟩
    have hr0 := h.slot r
    rw [hc] at hr0
    have hL0 : Ls.getD r .no = L0 := by simp [List.getD_eq_getElem?_getD, h0]
    rw [hL0] at hr0
    rcases hkind with ⟨b', c, rfl, _⟩ | ⟨fl, z, m, fl', z', m', _, he⟩
    · obtain ⟨gb, off, cs1, cur, e, hv1, hL1, _⟩ := hr0
      obtain ⟨gb2, off2, cs2, cur2, e2, hv2, hL2, _⟩ := hT
      rw [hv1] at hv2
      simp only [List.cons.injEq, Value.pointer.injEq, Option.some.injEq, Addr.mk.injEq, and_true] at hv2
      obtain ⟨rfl, rfl⟩ := hv2
      rw [hL1] at had
      rw [hL2]
      match q, hq with
      | [], _ => simp [adAt] at had
      | [.d k], _ => simpa [adAt] using had
      | [.e i sz k], _ => simpa [adAt] using had
      | [.t k], _ => simp [adAt] at had
    · rw [hc] at he; cases he
  have hstay : ∀ r, r ∉ boxRs args rs → (backLs Ls args rs Lc).getD r .no = Ls.getD r .no := by
    intro r hnb
    by_cases hr : r ∈ rs
    · obtain ⟨k, b, M, hk, hsl, hM, hT, hgM, hkind⟩ := hin2 r hr
      rcases hso r hr with ⟨cs, _, hb⟩ | ⟨fl0, z0, m0, hc⟩
      · exact absurd hb hnb
      · rcases hkind with ⟨b', c, _, he⟩ | ⟨fl, z, m, fl', z', m', rfl, _⟩
        · rw [hc] at he; cases he
        · have hr0 := h.slot r
          rw [hc] at hr0
          rw [hgM]
          obtain ⟨_, h1⟩ := hr0
          obtain ⟨_, h2⟩ := hT
          rcases h1 with ⟨_, e1, e2⟩ | ⟨g, cap, cur, e, e1, e2, _⟩
          · rcases h2 with ⟨_, f1, f2⟩ | ⟨g', cap', cur', e', f1, f2, _⟩
            · rw [e2, f2]
            · rw [e1] at f1; simp at f1
          · rcases h2 with ⟨_, f1, f2⟩ | ⟨g', cap', cur', e', f1, f2, _⟩
            · rw [e1] at f1; simp at f1
            · rw [e1] at f1
              simp only [List.cons.injEq, Value.slice.injEq, Option.some.injEq, Addr.mk.injEq, and_true] at f1
              obtain ⟨hg, hl, hcap⟩ := f1
              rw [e2, f2, hg, hl, hcap]
    · exact hout2 r hr
  have hmaps : ∀ rr, Maps w' RO' Ls (backLs Ls args rs Lc) (deepP (boxRs args rs)) (deepV (boxRs args rs)) rr := by
    intro rr
    refine ⟨fun r _ q L0 g o h0 had => ?_, fun r _ q sz wd L0 L1 x h0 h1 hv => ?_⟩
    · unfold deepP
      by_cases hr : r ∈ boxRs args rs
      · by_cases hq : 1 < q.length
        · rw [show ((boxRs args rs).contains r && decide (1 < q.length)) = true by simp [hr, hq]]; rfl
        · rw [show ((boxRs args rs).contains r && decide (1 < q.length)) = false by simp [hq]]
          obtain ⟨L1, h1, h2⟩ := hsame r hr L0 q g o h0 had (by omega)
          exact ⟨rfl, L1, g, o, h1, h2, rfl⟩
      · rw [show ((boxRs args rs).contains r && decide (1 < q.length)) = false by simp [hr]]
        have hlt' := (List.getElem?_eq_some_iff.1 h0).1
        refine ⟨rfl, L0, g, o, ?_, had, rfl⟩
        rw [hget _ r (by rw [hbl]; exact hlt'), hstay r hr]
        simp [List.getD_eq_getElem?_getD, h0]
    · unfold deepV
      by_cases hr : r ∈ boxRs args rs
      · rw [show (boxRs args rs).contains r = true by simp [hr]]; rfl
      · rw [show (boxRs args rs).contains r = false by simp [hr]]
        have hlt' := (List.getElem?_eq_some_iff.1 h0).1
        refine ⟨rfl, L0, L1, x, ?_, h1, rfl, hv⟩
        rw [hget _ r (by rw [hbl]; exact hlt'), hstay r hr]
        simp [List.getD_eq_getElem?_getD, h0]
  have hndB : (Ly.bsL (lyBs args Lc)).Nodup := (lyBs_sub args Lc).nodup hp.back.nodup
  have hsub : ∀ {k : Nat} {M : Ly}, (lyBs args Lc)[k]? = some M → ∀ g ∈ M.bs, g ∈ Ly.bsL Lc := fun hM g hg => (lyBs_sub args Lc).subset (bsL_get hM g hg)
  have hnotL : ∀ g, g ∈ Ly.bsL Lc → ∀ j, j ∉ rs → g ∉ (Ls.getD j .no).bs := by
    intro g hg j hj hm
    rcases hp.old g hg with ho | ho
    · obtain ⟨r, h1, h2⟩ := hcs g ho
      exact hj (getD_disj h.nodup hm h2 ▸ h1)
    · have := (h.own g (getD_mem hm)).1; omega
  refine ⟨backLs Ls args rs Lc, ⟨by rw [h.len, hl3], by rw [hbl, h.lenL, hl3], fun j => ?_, ?_, fun g hg => ?_, hp.back.ro⟩, ⟨hp.os, hp.tape, hp.output, hp.size, hheap, hp.ro, fun g hg => ?_, fun g hg => ?_, fun r hr => hout2 r hr⟩, fun g hg hm => ?_⟩
  · by_cases hj : j ∈ rs
    · obtain ⟨k, b, M, hk, hsl, hM, hT, hgM, _⟩ := hin2 j hj
      rw [hsl, hgM]
      exact TV_nil hT
    · rw [hout j hj, mapL_getD, hout2 j hj]
      exact TV_map hROsame hp.ro (hblk j hj) (fun _ _ _ => deepP_a) (fun _ _ _ => deepP_r) (fun _ _ _ _ _ => deepV_a) (fun _ _ _ _ _ => deepV_r) (hmaps _) (h.slot j)
  · rw [nodup_iff]
    have get : ∀ (j : Nat) (M : Ly), (backLs Ls args rs Lc)[j]? = some M → (backLs Ls args rs Lc).getD j .no = M := fun j M hj => getD_some hj
    refine ⟨fun j M hj => ?_, fun j k M N hj hk hne x hx hy => ?_⟩
    · have hM := get j M hj
      by_cases hjr : j ∈ rs
      · obtain ⟨k, b, M', hk, hsl, hM', hT, hgM, _⟩ := hin2 j hjr
        rw [← hM, hgM]
        exact nodup_of_get hndB hM'
      · rw [← hM, hout2 j hjr]; exact getD_nodup h.nodup j
    · have hM := get j M hj
      have hN := get k N hk
      by_cases hjr : j ∈ rs
      · obtain ⟨kj, b, M', hkj, hsl, hM', hT, hgM, _⟩ := hin2 j hjr
        rw [← hM, hgM] at hx
        have hxL : x ∈ Ly.bsL Lc := hsub hM' x hx
        by_cases hkr : k ∈ rs
        · obtain ⟨kk, b2, N', hkk, hsl2, hN', hT2, hgN, _⟩ := hin2 k hkr
          rw [← hN, hgN] at hy
          refine nodup_get hndB hM' hN' (fun e => hne ?_) x hx hy
          have h1 := idxOf_get hkj
          have h2 := idxOf_get hkk
          subst e
          rw [h1] at h2; cases h2; rfl
        · rw [← hN, hout2 k hkr] at hy
          exact hnotL x hxL k hkr hy
      · rw [← hM, hout2 j hjr] at hx
        by_cases hkr : k ∈ rs
        · obtain ⟨kk, b2, N', hkk, hsl2, hN', hT2, hgN, _⟩ := hin2 k hkr
          rw [← hN, hgN] at hy
          exact hnotL x (hsub hN' x hy) j hjr hx
        · rw [← hN, hout2 k hkr] at hy
          exact hne (getD_disj h.nodup hx hy)
  · obtain ⟨j, hj⟩ := mem_getD hg
    by_cases hjr : j ∈ rs
    · obtain ⟨k, b, M, hk, hsl, hM, hT, hgM, _⟩ := hin2 j hjr
      rw [hgM] at hj
      exact hp.back.own g (hsub hM g hj)
    · rw [hout2 j hjr] at hj
      have h0 := h.own g (getD_mem hj)
      refine ⟨Nat.lt_of_lt_of_le h0.1 hp.size, fun hro => ?_⟩
      rcases hp.ro' g hro with hro | hro | hro
      · exact h0.2 hro
      · obtain ⟨r, h1, h2⟩ := hcs g hro
        exact hjr (getD_disj h.nodup hj h2 ▸ h1)
      · omega
  · rcases hp.ro' g hg with hg | hg | hg
    · exact .inl hg
    · obtain ⟨r, h1, h2⟩ := hcs g hg; exact .inr (.inl (getD_mem h2))
    · exact .inr (.inr hg)
  · obtain ⟨j, hj⟩ := mem_getD hg
    by_cases hjr : j ∈ rs
    · obtain ⟨k, b, M, hk, hsl, hM, hT, hgM, _⟩ := hin2 j hjr
      rw [hgM] at hj
      rcases hp.old g (hsub hM g hj) with ho | ho
      · obtain ⟨r, h1, h2⟩ := hcs g ho; exact .inl (getD_mem h2)
      · exact .inr ho
    · rw [hout2 j hjr] at hj; exact .inl (getD_mem hj)
  · obtain ⟨j, hj⟩ := mem_getD hm
    by_cases hjr : j ∈ rs
    · obtain ⟨k, b, M, hk, hsl, hM, hT, hgM, _⟩ := hin2 j hjr
      rw [hgM] at hj
      exact (hp.own g hg).1 (hsub hM g hj)
    · rw [hout2 j hjr] at hj
      rcases (hp.own g hg).2.2.2 with ho | ho
      · obtain ⟨r, h1, h2⟩ := hcs g ho
        exact hjr (getD_disj h.nodup hj h2 ▸ h1)
      · have := (h.own g (getD_mem hj)).1; omega
theorem backArgs_fresh : ∀ (args : List T) (bs : List (List T)), freshLL bs = true → ∀ j, slot (backArgs args bs) j = .u ∨ fresh (slot (backArgs args bs) j) = true
  | [], bs, _, j => .inl rfl
  | t :: l, bs, h, j => by
    have plain : ∀ j, slot (.u :: backArgs l bs) j = .u ∨ fresh (slot (.u :: backArgs l bs) j) = true := fun j => by
      cases j with
      | zero => exact .inl rfl
      | succ j => exact backArgs_fresh l bs h j
    cases t with
    | bx c =>
      cases bs with
      | nil => exact plain j
      | cons b bs =>
        simp only [freshLL, Bool.and_eq_true] at h
        cases j with
        | zero => right; simpa [backArgs, slot_cons_zero, fresh] using h.1
        | succ j => exact backArgs_fresh l bs h.2 j
    | a c =>
      cases bs with
      | nil => exact plain j
      | cons b bs =>
        simp only [freshLL, Bool.and_eq_true] at h
        cases j with
        | zero => right; simpa [backArgs, slot_cons_zero, fresh] using h.1
        | succ j => exact backArgs_fresh l bs h.2 j
    | _ => exact plain j
theorem CallPost.fresh {RO3 RO4 : Nat → Prop} {Lc Lc' : List Ly} {args : List T} {vs : Array Value} {res : T × List (List T)} {L : Ly} {v : Value}
    (hp : CallPost w RO3 Lc args vs res w' RO4 Lc' L v) (hro : ∀ g, RO g → RO3 g) (hlt : ∀ g, RO g → g < w.heap.size) (h1 : Os.fresh res.1 = true) (h2 : freshLL res.2 = true) :
    CallPost w RO Lc args vs res w' RO Lc' L v where
  os := hp.os
  tape := hp.tape
  output := hp.output
  size := hp.size
  blk := hp.blk
  ro _ h := h
  ro' g h := .inl h
  back := by
    refine ⟨hp.back.len, hp.back.lenL, fun j => ?_, hp.back.nodup, fun g hg => ⟨(hp.back.own g hg).1, fun h => (hp.back.own g hg).2 (hp.ro g (hro g h))⟩, fun g hg => Nat.lt_of_lt_of_le (hlt g hg) hp.size⟩
    have hT := hp.back.slot j
    rcases backArgs_fresh args res.2 h2 j with hu | hf
    · rw [hu] at hT ⊢; exact hT
    · exact fresh_anyV hf hT
  old := hp.old
  val := fresh_anyV h1 hp.val
  nd := hp.nd
  own g hg := ⟨(hp.own g hg).1, fun h => (hp.own g hg).2.1 (hp.ro g (hro g h)), (hp.own g hg).2.2⟩
theorem freezeAll_slot {E : Env} : ∀ (l : List (Nat × Pth)) (s : List T) (W : List Nat) (e : Eff), freezeAll E s W l = some e → ∀ r, (∀ p ∈ l, p.1 ≠ r) → shut (slot s r) = true → slot e.1 r = slot s r
  | [], s, W, e, h, r, _, _ => by simp only [freezeAll, Option.some.injEq] at h; subst h; rfl
  | x :: l, s, W, e, h, r, hp, hs => by
    have setP_same : ∀ {s s' : List T} {c : T}, setP E.A s x.1 x.2 c = some s' → slot s' r = slot s r := by
      intro s s' c hx
      unfold setP at hx
      split at hx
      · cases hx
        rw [slot_set, if_neg (fun h => hp x (by simp) h.1.symm)]
      · cases hx
    simp only [freezeAll, Option.bind_eq_some_iff] at h
    obtain ⟨t, ht, h⟩ := h
    split at h
    · simp only [Option.bind_eq_some_iff] at h
      obtain ⟨s', hs', h⟩ := h
      have e1 := setP_same hs'
      rw [freezeAll_slot l s' _ e h r (fun p hp' => hp p (by simp [hp'])) (by rw [e1]; exact hs), e1]
    · simp only [Option.bind_eq_some_iff] at h
      obtain ⟨ys, hys, s', hs', h⟩ := h
      have e1 := setP_same hs'
      have e2 : slot (sinkAll x.1 x.2 s) r = slot s r := by rw [sinkAll, mapL_getD, shut_map _ hs]
      rw [freezeAll_slot l s' _ e h r (fun p hp' => hp p (by simp [hp'])) (by rw [e1, e2]; exact hs), e1, e2]
    · exact freezeAll_slot l s W e h r (fun p hp' => hp p (by simp [hp'])) hs
    · cases h
theorem ownParts_shut {s : List T} : ∀ (l ys : List T) (rs : List Nat), ownParts s l = some (ys, rs) → ∀ r ∈ rs, shut (slot s r) = true
  | [], ys, rs, h, r, hr => by
    simp only [ownParts, Option.some.injEq, Prod.mk.injEq] at h
    obtain ⟨_, rfl⟩ := h
    simp at hr
  | x :: l, ys, rs, h, r, hr => by
    simp only [ownParts, Option.bind_eq_some_iff] at h
    obtain ⟨⟨ys', rs'⟩, hrest, h⟩ := h
    split at h
    · split at h
      · cases h; exact ownParts_shut l _ _ hrest r hr
      · cases h
    · split at h
      · split at h
        · split at h
          · rename_i hsl
            cases h
            simp only [List.mem_cons] at hr
            rcases hr with rfl | hr
            · rw [hsl]; rfl
            · exact ownParts_shut l _ _ hrest r hr
          · cases h
        · cases h
      · cases h
    · cases h
theorem handArgs_box {E : Env} {s : List T} : ∀ (args : List T) (ms : List Bool) (hh : List T × List Nat), handArgs E s ms args = some hh → ∀ r ∈ hh.2, shut (slot s r) = true
  | [], ms, hh, h, r, hr => by simp only [handArgs, Option.some.injEq] at h; subst h; simp at hr
  | x :: l, ms, hh, h, r, hr => by
    simp only [handArgs, Option.bind_eq_some_iff] at h
    obtain ⟨rest, hrest, h⟩ := h
    split at h
    · split at h
      · rename_i r' ys hb
        split at h
        · cases h
        · cases h
          simp only [List.mem_cons] at hr
          rcases hr with rfl | hr
          · unfold ownArg at hb
            split at hb
            · simp only [Option.bind_eq_some_iff] at hb
              obtain ⟨⟨ys', rs'⟩, hp, hb⟩ := hb
              split at hb
              · rename_i hr'
                cases hb
                exact ownParts_shut _ _ _ hp r (by simp only at hr'; rw [hr']; simp)
              · cases hb
            · cases hb
          · exact handArgs_box l _ rest hrest r hr
      · cases h
    · split at h
      · cases h; exact handArgs_box l _ rest hrest r hr
      · split at h
        · cases h; exact handArgs_box l _ rest hrest r hr
        · split at h
          · rename_i r' ys hb
            split at h
            · cases h
            · cases h
              simp only [List.mem_cons] at hr
              rcases hr with rfl | hr
              · unfold boxOf at hb
                split at hb
                · split at hb
                  · split at hb
                    · split at hb
                      · split at hb
                        · cases hb
                          rename_i h1 h2
                          first | (rw [h2]; simpa [shut] using h1) | (rw [h1]; simpa [shut] using h2) | (simp_all [shut])
                        · cases hb
                      · cases hb
                    · cases hb
                  · cases hb
                · cases hb
              · exact handArgs_box l _ rest hrest r hr
          · cases h
theorem call_ok {o : Oper} {E : Env} (hE : E.A = re) (hcall : CallOK P E.call) {f : FuncId} {args : List T} {vs : Array Value} (hexec : (∃ fn, P.funcs[f]? = some fn ∧ fn.body.isNone = false ∧ fn.name ≠ "runtime.NumGoroutine") → (execOp a.eval o).run P w = .ok (.enter f vs) w)
    (h : Rel w RO Ls s a.tmps) (ha : ArgsV w RO Ls args vs.toList) {e : Eff} (he : doCall E s o.dst f args = some e) : OpOK P w RO Ls a o e := by
  unfold doCall at he
  simp only [Option.bind_eq_some_iff] at he
  obtain ⟨hh, hhand, he⟩ := he
  split at he
  · cases he
  · rename_i hlent
    simp only [Option.bind_eq_some_iff, Option.map_eq_some_iff] at he
    obtain ⟨res, hres, fz, hfz, s1, hs1, rfl⟩ := he
    obtain ⟨hfn, hC⟩ := hcall f hh.1 res hres
    have hlent' : ∀ p ∈ lentL E s (stayA (handM E f) args), p.1 ∉ hh.2 := fun p hp => by
      have := List.all_eq_true.1 hlent p hp
      simpa using this
    have key : ∃ (RO2 RO3 : Nat → Prop) (Ls2 : List Ly), Rel w RO2 Ls2 fz.1 a.tmps ∧ Ext w RO Ls fz.2 w RO2 Ls2 ∧ (∀ g, RO g → RO3 g) ∧ (∀ g, RO2 g → RO3 g) ∧ (∀ g, RO3 g → g < w.heap.size ∧ ∀ r ∈ hh.2, g ∉ (Ls2.getD r .no).bs) ∧
        (∀ p ∈ lentL E s (stayA (handM E f) args), ∀ g, BlkAt Ls p g → RO3 g) ∧ (∀ r ∈ hh.2, slot fz.1 r = slot s r) ∧
        ∀ {Lc Lc' L v w' RO4}, CallPost w RO3 Lc hh.1 vs res w' RO4 Lc' L v → ∃ RO5, CallPost w RO2 Lc hh.1 vs res w' RO5 Lc' L v := by
      split at hfz
      · rename_i hfr
        cases hfz
        simp only [Bool.and_eq_true] at hfr
        refine ⟨RO, fun g => RO g ∨ ∃ p ∈ lentL E s (stayA (handM E f) args), BlkAt Ls p g, Ls, h, Ext.refl _ _ _, fun g hg => .inl hg, fun g hg => .inl hg, fun g hg => ?_, fun p hp g hg => .inr ⟨p, hp, hg⟩, fun _ _ => rfl, fun hp => ⟨RO, hp.fresh (fun g hg => .inl hg) h.ro hfr.1 hfr.2⟩⟩
        rcases hg with hg | ⟨p, hp, L0, L1, h0, h1, hg⟩
        · exact ⟨h.ro g hg, fun r _ hm => (h.own g (getD_mem hm)).2 hg⟩
        · have hgL : g ∈ (Ls.getD p.1 .no).bs := by
            rw [getD_some h0]; exact lyAt_bs p.2 L0 L1 h1 g hg
          exact ⟨(h.own g (getD_mem hgL)).1, fun r hr hm => hlent' p hp (getD_disj h.nodup hgL hm ▸ hr)⟩
      · obtain ⟨RO2, Ls2, h1, h2, h3⟩ := freezeAll_ok hE _ s [] fz RO Ls h hfz
        exact ⟨RO2, RO2, Ls2, h1, h2, h2.ro, fun _ h => h, fun g hg => ⟨h1.ro g hg, fun r _ hm => (h1.own g (getD_mem hm)).2 hg⟩, h3,
          fun r hr => freezeAll_slot _ s [] fz hfz r (fun p hp e => hlent' p hp (e ▸ hr)) (handArgs_box args _ hh hhand r hr), fun hp => ⟨_, hp⟩⟩
    obtain ⟨RO2, RO3, Ls2, h2, hX2, hr1, hr2, hr3, hl3, hsl, hpost⟩ := key
    obtain ⟨k1, k2, k3, k4⟩ := hand_ok hE h h2 hr1 hr2 args _ vs.toList hh hhand ha hl3 hsl
    have hclo : Clo w RO3 hh.1 vs (handLs Ls2 hh.1 hh.2) := by
      refine k2.clo (handLs_nodup h2.nodup (getD_nodup h2.nodup) k3) (fun g hg => ?_) fun g hg => (hr3 g hg).1
      obtain ⟨r, hr, hm⟩ := handLs_bs hg
      exact ⟨(h2.own g (getD_mem hm)).1, fun hro => (hr3 g hro).2 r hr hm⟩
    intro K Q hK
    unfold Oper.wp
    rw [hexec hfn, Oper.upon_enter]
    refine Calls.mono (hC w RO3 _ vs hclo k4) fun e' w' hpst => ?_
    obtain ⟨v, RO4, Lc', L, rfl, hp⟩ := hpst
    obtain ⟨RO5, hp5⟩ := hpost hp
    obtain ⟨Ls5, hR5, hX5, hL5⟩ := rel_back h2 k1 k3 hp5 hs1
    obtain ⟨Ls6, hR6, hd6, ho6, hl6⟩ := put_ok (a := a) (d := o.dst) (t := res.1) (v := v) (L := L) hR5 (TV_nil hp5.val) hp5.nd fun g hg => ⟨hL5 g hg, (hp5.own g hg).2.1, (hp5.own g hg).2.2.1⟩
    have hX := hX2.trans h2.nodup hX5
    refine hK _ _ RO5 Ls6 hR6 hd6 ⟨hX.os, hX.tape, hX.output, hX.size, fun k hk hr => hX.blk k hk fun r hrW => hr r ?_, hX.ro, hX.ro', fun g hg => ?_, fun r hr => ?_⟩
    · simp only [List.mem_append] at hrW ⊢
      rcases hrW with hrW | hrW
      · exact .inl (.inl hrW)
      · exact .inl (.inr (.inl hrW))
    · rcases ho6 g hg with hg | hg
      · rcases (hp5.own g hg).2.2.2 with ho | ho
        · obtain ⟨r, hr, hm⟩ := handLs_bs ho
          rcases hX2.own g (getD_mem hm) with h | h
          · exact .inl h
          · exact .inr h
        · exact .inr ho
      · exact hX.own g hg
    · simp only [List.mem_append, not_or] at hr
      rw [hl6 r hr.2, hX.ly r (by simp only [List.mem_append, not_or]; exact ⟨hr.1.1, hr.1.2.1⟩)]
end
end Go.Os
