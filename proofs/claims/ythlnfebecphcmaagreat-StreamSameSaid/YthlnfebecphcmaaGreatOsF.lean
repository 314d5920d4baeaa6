/-
  The evaluator of the model's code over pure trees, and its soundness: part F of 8.
-/
import Derived.Test.YthlnfebecphcmaaGreatOsE
import Derived.Laws.Sem
set_option linter.unusedVariables false
set_option linter.unusedSimpArgs false
set_option linter.unusedVariables false
namespace Go.Os
theorem one_ad {L N : Ly} {x : Sp} (hx : kid L x = some .no) : ∀ (q' : Pth) (a : Nat × Nat), adAt L q' = some a → adAt (setLy L [x] N) q' = some a
  | [], a, h => by rw [adAt_nil] at h; cases h
  | [y], a, h => by rw [ad_one]; exact h
  | y :: z :: q, a, h => by
    rw [adAt_cons, Option.bind_eq_some_iff] at h
    obtain ⟨K, hK, h⟩ := h
    obtain ⟨K', hK', h1 | ⟨h1, h2, _⟩⟩ := kid_set (x := x) (q := []) (N := N) hK
    · rw [adAt_cons, hK', h1]; exact h
    · rw [hx] at h2; cases h2
      cases z <;> simp [adAt] at h
theorem one_ly {L N : Ly} {x : Sp} (hx : kid L x = some .no) : ∀ (q' : Pth) (L1 : Ly), lyAt L q' = some L1 → L1.bar = false → ∃ L1', lyAt (setLy L [x] N) q' = some L1' ∧ topEq L1 L1'
  | [], L1, h, hb => by rw [lyAt_nil] at h; cases h; exact ⟨_, lyAt_nil _, top_set L x [] N⟩
  | y :: q, L1, h, hb => by
    rw [lyAt_cons, Option.bind_eq_some_iff] at h
    obtain ⟨K, hK, h⟩ := h
    obtain ⟨K', hK', h1 | ⟨h1, h2, _⟩⟩ := kid_set (x := x) (q := []) (N := N) hK
    · exact ⟨L1, by rw [lyAt_cons, hK', h1]; exact h, topEq.refl L1⟩
    · rw [hx] at h2; cases h2
      cases q with
      | nil => rw [lyAt_nil] at h; cases h; simp [Ly.bar] at hb
      | cons z q => cases z <;> simp [lyAt] at h
theorem one_self {L N K : Ly} {x : Sp} (hx : kid L x = some K) : kid (setLy L [x] N) x = some N := by
  cases L <;> cases x <;> simp only [kid] at hx <;> simp only [setLy, kid, modify_get] <;> simp_all [setLy_nil]
theorem modify_const (cs : List Ly) (k : Nat) (N : Ly) : (cs.modify k fun _ => N) = cs.set k N := by
  apply List.ext_getElem?
  intro i
  rw [modify_get, List.getElem?_set]
  split
  · rename_i e
    subst e
    cases h : cs[k]? with
    | none =>
      have : ¬ k < cs.length := by
        intro hl
        rw [List.getElem?_eq_getElem hl] at h; cases h
      simp [this]
    | some K =>
      have : k < cs.length := (List.getElem?_eq_some_iff.1 h).1
      simp [this]
  · rfl
theorem bsL_set_sub {cs : List Ly} {k : Nat} {N : Ly} : ∀ g ∈ Ly.bsL (cs.set k N), g ∈ N.bs ∨ g ∈ Ly.bsL cs := fun g hg => by
  rcases bsL_set_mem hg with h | ⟨j, _, h⟩
  · exact .inl h
  · exact .inr (getD_mem h)
theorem one_bs {L N K : Ly} {x : Sp} (hx : kid L x = some K) : ∀ g ∈ (setLy L [x] N).bs, g ∈ N.bs ∨ g ∈ L.bs := by
  intro g hg
  cases L <;> cases x <;> simp only [kid] at hx <;> (try cases hx)
  all_goals
    simp only [setLy, Ly.bs, modify_const] at hg ⊢
    first
      | (simp only [List.mem_cons] at hg ⊢
         rcases hg with hg | hg
         · exact .inr (.inl hg)
         · rcases bsL_set_sub g hg with h | h
           · exact .inl h
           · exact .inr (.inr h))
      | (rcases bsL_set_sub g hg with h | h
         · exact .inl h
         · exact .inr h)
theorem one_nodup {L N K : Ly} {x : Sp} (hx : kid L x = some K) (h1 : L.bs.Nodup) (h2 : N.bs.Nodup) (h3 : ∀ g ∈ N.bs, g ∉ L.bs) : (setLy L [x] N).bs.Nodup := by
  have key : ∀ (cs : List Ly) (k : Nat), (Ly.bsL cs).Nodup → (∀ g ∈ N.bs, g ∉ Ly.bsL cs) → (Ly.bsL (cs.set k N)).Nodup := fun cs k h4 h5 =>
    nodup_set h4 h2 fun g hg j _ hgj => h5 g hg (getD_mem hgj)
  cases L <;> cases x <;> simp only [kid] at hx <;> (try cases hx)
  all_goals
    simp only [setLy, Ly.bs, modify_const] at h1 h3 ⊢
    first
      | (simp only [List.nodup_cons, List.mem_cons, not_or] at h1 h3 ⊢
         refine ⟨fun hg => ?_, key _ _ h1.2 fun g hg => (h3 g hg).2⟩
         rcases bsL_set_sub _ hg with h | h
         · exact (h3 _ h).1 rfl
         · exact h1.1 h)
      | exact key _ _ h1 h3
section
variable {P : Program} {w : World} {RO : Nat → Prop} {Ls : List Ly} {a : Act} {s : List T} {tm : Array Value}
theorem renP_cells (r : Nat) (q : Pth) (d : Nat) (q2 : Pth) (r1 : Nat) (q1 : Pth) : (renP r q d q2 r1 q1).cells = [renP r q d q2 r1 q1] := by unfold renP; split <;> rfl
theorem renV_cells (r : Nat) (q : Pth) (d : Nat) (q2 : Pth) (r1 : Nat) (q1 : Pth) (sz : Nat) (wd : Option (Nat × Nat)) : (renV r q d q2 r1 q1 sz wd).cells = [renV r q d q2 r1 q1 sz wd] := by unfold renV; split <;> rfl
theorem strip_self : ∀ q : Pth, flatP q = true → strip q q = some []
  | [], _ => rfl
  | .t k :: q, h => by simp only [strip, beq_self_eq_true]; exact strip_self q (by simpa [flatP] using h)
  | .d o :: q, h => by simp [flatP] at h
  | .e i sz o :: q, h => by simp [flatP] at h
theorem strip_app : ∀ (q x : Pth), flatP q = true → strip q (q ++ x) = some x
  | [], x, _ => rfl
  | .t k :: q, x, h => by simp only [List.cons_append, strip, beq_self_eq_true]; exact strip_app q x (by simpa [flatP] using h)
  | .d o :: q, x, h => by simp [flatP] at h
  | .e i sz o :: q, x, h => by simp [flatP] at h
def ownV (L : Ly) (v : Value) : Prop :=
  match L with
  | .nl => v = .slice none 0 0
  | .bl g off n cap _ => v = .slice (some ⟨g, off, none⟩) n cap ∨ v = .pointer (some ⟨g, off, none⟩)
  | _ => False
theorem moveTo_ok {E : Env} (hE : E.A = re) (h : Rel w RO Ls s tm) {r d : Nat} {q : Pth} {x : Sp} {c : T} (hc : getP re s d [x] = some c)
    (hcc : (∃ sz, c = .v r q sz none ∧ isOwnT (getP re s r q) = true) ∨ (c = .p r (q ++ [.d 0]) ∧ ∃ cs, getP re s r q = some (.bx cs))) {s' : List T} (hm : moveTo E s r q d x = some s') :
    ∃ Ls', Rel w RO Ls' s' tm ∧ ExtA w RO Ls w RO Ls' := by
  unfold moveTo at hm
  rw [hE] at hm
  split at hm
  · cases hm
  · rename_i hrf
    simp only [Bool.and_eq_true, Bool.not_eq_true', beq_eq_false_iff_ne] at hrf
    obtain ⟨hrd, hf⟩ := hrf
    simp only [Option.bind_eq_some_iff] at hm
    obtain ⟨X, hg, hm⟩ := hm
    split at hm
    · cases hm
    · rename_i hX
      simp only [Option.bind_eq_some_iff] at hm
      obtain ⟨s1, hs1, hm⟩ := hm
      obtain ⟨t', ht', hst⟩ := setP_slot hs1
      obtain ⟨td, htd, hsd⟩ := setP_slot hm
      have hXn : X ≠ .u := fun e => by rw [e] at hX; cases hX
      have hrs : r < s.length := getP_lt hg hXn
      have hcn : c ≠ .u := fun e => by rcases hcc with ⟨sz, h1, _⟩ | ⟨h1, _⟩ <;> rw [e] at h1 <;> cases h1
      have hds : d < s.length := getP_lt hc hcn
      have hrl : r < Ls.length := by rw [h.lenL]; exact hrs
      have hdl : d < Ls.length := by rw [h.lenL]; exact hds
      have h0 := getD_get hrl
      have hd0 := getD_get hdl
      generalize hL0 : Ls.getD r .no = L0 at h0
      generalize hLd : Ls.getD d .no = Ld at hd0
      obtain ⟨v', hfc, _⟩ := Rel.found (a := { tmps := tm, defers := [] }) h hc (by simp) hd0
      have hplace : kid Ld x = some .no ∧ TC w RO Ls c [v'] .no := by
        rcases hfc with ⟨L', hL', hT⟩ | ⟨_, y, hy, _⟩
        · have hno : L' = .no := by rcases hcc with ⟨sz, h1, _⟩ | ⟨h1, _⟩ <;> (rw [h1] at hT; exact hT.1)
          subst hno
          rw [lyAt_cons] at hL'
          refine ⟨?_, hT⟩
          cases hk : kid Ld x with
          | none => simp [hk] at hL'
          | some K => rw [hk] at hL'; simp only [Option.bind_some, lyAt_nil, Option.some.injEq] at hL'; rw [hL']
        · rcases hcc with ⟨sz, h1, _⟩ | ⟨h1, _⟩ <;> (rw [h1] at hy; cases hy)
      obtain ⟨hkid, hTc⟩ := hplace
      have howner : ∃ L1, lyAt L0 q = some L1 ∧ TC w RO Ls X [v'] L1 ∧ L1.un = [L1] ∧ L1.bs.Nodup ∧ (∀ L2 v2, topEq L1 L2 → (∃ sz, c = .v r q sz none ∧ viewV L2 sz none v2) → v2 = v') ∧
          (∀ v2 g o, adAt L1 [.d 0] = some (g, o) → (∃ q, c = .p r q) → v2 = Value.pointer (some ⟨g, o, none⟩) → v2 = v') := by
        rcases hcc with ⟨sz, h1, hown⟩ | ⟨h1, cs, hbx⟩
        · rw [h1] at hTc
          obtain ⟨_, M0, L1, v, hM0, hL1, hv, hw⟩ := hTc
          rw [h0] at hM0; cases hM0
          simp only [List.cons.injEq, and_true] at hv
          subst hv
          obtain ⟨v1, hT1⟩ := rel_place h hg (by cases X <;> first | rfl | (rw [hg] at hown; simp [isOwnT] at hown)) h0 hL1
          have hXo : ∃ fl sz' l, X = .own fl sz' l := by
            rw [hg] at hown
            cases X <;> simp [isOwnT] at hown
            exact ⟨_, _, _, rfl⟩
          obtain ⟨fl, sz', l, rfl⟩ := hXo
          have hvv : v1 = v' := by
            obtain ⟨_, ⟨_, hv2, hL⟩ | ⟨g, cap, cur, e, hv2, hL, _⟩⟩ := hT1
            · subst hL
              simp only [List.cons.injEq, and_true] at hv2
              rw [hv2]; exact hw.symm
            · subst hL
              simp only [List.cons.injEq, and_true] at hv2
              rw [hv2]; exact hw.symm
          subst hvv
          have hTk := hT1
          obtain ⟨hpos, ⟨hl, hv2, hL⟩ | ⟨g, cap, cur, e, hv2, hL, _⟩⟩ := hT1
          · subst hL
            refine ⟨.nl, hL1, hTk, rfl, by simp [Ly.bs], ?_, fun v2 g o had => by simp [adAt] at had⟩
            rintro L2 v2 htop ⟨sz2, _, hv3⟩
            have hw2 := viewV_top htop hw
            have : L2 = .nl := by simpa [topEq, eq_comm] using htop
            subst this
            rw [show v2 = _ from hv3, show v1 = _ from hw]
          · subst hL
            refine ⟨.bl g 0 l.length cap [], hL1, hTk, rfl, by simp [Ly.bs, Ly.bsL], ?_, fun v2 g o _ hp => by obtain ⟨q2, hp⟩ := hp; rw [h1] at hp; cases hp⟩
            rintro L2 v2 htop ⟨sz2, _, hv3⟩
            rcases htop with ⟨cs', rfl⟩ | rfl
            · rw [show v2 = _ from hv3, show v1 = _ from hw]
            · rw [show v2 = _ from hv3, show v1 = _ from hw]
        · rw [hg] at hbx
          cases hbx
          rw [h1] at hTc
          obtain ⟨_, M0, g, o, hM0, had, hv⟩ := hTc
          rw [h0] at hM0; cases hM0
          simp only [List.cons.injEq, and_true] at hv
          subst hv
          rw [adAt_append L0 q _ (by simp), Option.bind_eq_some_iff] at had
          obtain ⟨L1, hL1, had⟩ := had
          obtain ⟨v1, hT1⟩ := rel_place h hg rfl h0 hL1
          have hTk := hT1
          obtain ⟨gb, off, cs', cur, e, hv2, hL, _⟩ := hT1
          have had2 := had
          rw [hL] at had2
          simp only [adAt, Option.some.injEq, Prod.mk.injEq] at had2
          obtain ⟨rfl, rfl⟩ := had2
          simp only [List.cons.injEq, and_true] at hv2
          have hvv : v1 = .pointer (some ⟨gb, off + 0, none⟩) := hv2
          rw [hvv] at hTk
          refine ⟨L1, hL1, hTk, by rw [hL]; rfl, ?_, ?_, ?_⟩
          · have := nodup_of_get h.nodup h0
            have hsub : ∀ (q : Pth) (L L1 : Ly), L.bs.Nodup → lyAt L q = some L1 → L1.bs.Nodup := by
              intro q
              induction q with
              | nil => intro L L1 hn hl; rw [lyAt_nil] at hl; cases hl; exact hn
              | cons y q ih =>
                intro L L1 hn hl
                rw [lyAt_cons, Option.bind_eq_some_iff] at hl
                obtain ⟨K, hK, hl⟩ := hl
                refine ih K L1 ?_ hl
                cases L <;> cases y <;> simp only [kid] at hK <;> (try cases hK)
                all_goals
                  simp only [Ly.bs] at hn
                  first
                    | exact nodup_of_get (List.nodup_cons.1 hn).2 hK
                    | exact nodup_of_get hn hK
            exact hsub q L0 L1 this hL1
          · rintro L2 v2 _ ⟨sz2, hp, _⟩; rw [h1] at hp; cases hp
          · intro v2 g2 o2 h2 _ h3
            rw [had] at h2
            simp only [Option.some.injEq, Prod.mk.injEq] at h2
            rw [h3, ← h2.1, ← h2.2]
      obtain ⟨L1, h1, hTX, hN1, hL1nd, hval, hval2⟩ := howner
      generalize hLs' : (Ls.set r (setLy L0 q .no)).set d (setLy Ld [x] L1) = Ls'
      have hgetd : Ls'[d]? = some (setLy Ld [x] L1) := by rw [← hLs', List.getElem?_set_self (by simpa using hdl)]
      have hgetr : Ls'[r]? = some (setLy L0 q .no) := by rw [← hLs', List.getElem?_set_ne (Ne.symm hrd), List.getElem?_set_self hrl]
      have hgeto : ∀ j, j ≠ r → j ≠ d → Ls'[j]? = Ls[j]? := fun j e1 e2 => by rw [← hLs', List.getElem?_set_ne (Ne.symm e2), List.getElem?_set_ne (Ne.symm e1)]
      have hgetD : ∀ j, j ≠ r → j ≠ d → Ls'.getD j .no = Ls.getD j .no := fun j e1 e2 => by
        rw [List.getD_eq_getElem?_getD, List.getD_eq_getElem?_getD, hgeto j e1 e2]
      have hself := one_self (N := L1) hkid
      have hlself : ∀ y, lyAt (setLy Ld [x] L1) (x :: y) = lyAt L1 y := fun y => by rw [lyAt_cons, hself]; rfl
      have haself : ∀ y, y ≠ [] → adAt (setLy Ld [x] L1) (x :: y) = adAt L1 y := fun y hy => by
        obtain ⟨z, y, rfl⟩ := List.exists_cons_of_ne_nil hy
        rw [adAt_cons, hself]; rfl
      have hM : ∀ rs, Maps w RO Ls Ls' (renP r q d [x]) (renV r q d [x]) rs := by
        intro rs
        refine ⟨fun r1 _ q1 M g o hr1 had => ?_, fun r1 _ q1 sz1 wd M M1 y hr1 hly hvw => ?_⟩
        · unfold renP
          by_cases e : r = r1
          · subst e
            rw [h0] at hr1; cases hr1
            cases hst2 : strip q q1 with
            | some y =>
              simp only [beq_self_eq_true]
              have hq1 := strip_spec q q1 y hst2
              subst hq1
              have hy : y ≠ [] := fun e => by
                subst e
                rw [List.append_nil, adAt_flat q L0 hf] at had; cases had
              rw [adAt_append L0 q y hy, h1] at had
              exact ⟨rfl, _, g, o, hgetd, by rw [List.cons_append, List.nil_append, haself y hy]; exact had, rfl⟩
            | none =>
              simp only [beq_self_eq_true]
              exact ⟨rfl, _, g, o, hgetr, ad_set q L0 .no q1 _ had (by rw [strip_none q q1 hf hst2]; rfl), rfl⟩
          · rw [show (r == r1) = false by simpa using e]
            simp only
            by_cases e2 : r1 = d
            · subst e2
              rw [hd0] at hr1; cases hr1
              exact ⟨rfl, _, g, o, hgetd, one_ad hkid q1 _ had, rfl⟩
            · exact ⟨rfl, M, g, o, by rw [hgeto r1 (Ne.symm e) e2]; exact hr1, had, rfl⟩
        · unfold renV
          by_cases e : r = r1
          · subst e
            rw [h0] at hr1; cases hr1
            cases hst2 : strip q q1 with
            | some y0 =>
              simp only [beq_self_eq_true]
              have hq1 := strip_spec q q1 y0 hst2
              subst hq1
              rw [lyAt_append L0 q y0, h1] at hly
              exact ⟨rfl, _, M1, y, hgetd, by rw [List.cons_append, List.nil_append, hlself]; exact hly, rfl, hvw⟩
            | none =>
              simp only [beq_self_eq_true]
              obtain ⟨M2, h4, h5⟩ := ly_set q L0 .no q1 M1 hly (strip_none q q1 hf hst2)
              exact ⟨rfl, _, M2, y, hgetr, h4, rfl, viewV_top h5 hvw⟩
          · rw [show (r == r1) = false by simpa using e]
            simp only
            by_cases e2 : r1 = d
            · subst e2
              rw [hd0] at hr1; cases hr1
              obtain ⟨M2, h4, h5⟩ := one_ly (N := L1) hkid q1 M1 hly (viewV_bar hvw)
              exact ⟨rfl, _, M2, y, hgetd, h4, rfl, viewV_top h5 hvw⟩
            · exact ⟨rfl, M, M1, y, by rw [hgeto r1 (Ne.symm e) e2]; exact hr1, hly, rfl, hvw⟩
      have hmap : ∀ j, TV w RO Ls' (mapT (renP r q d [x]) (renV r q d [x]) (slot s j)) (tm.getD j undef) (Ls.getD j .no) := fun j =>
        TV_map (fun _ _ => rfl) (fun _ h => h) (fun _ _ => rfl) (fun _ _ _ => renP_a) (fun _ _ _ => renP_r) (fun _ _ _ _ _ => renV_a) (fun _ _ _ _ _ => renV_r) (hM _) (h.slot j)
      have hNb : (setLy L0 q .no).bs.Sublist L0.bs := setLy_bs q L0 .no rfl
      have hL1L0 := lyAt_bs q L0 L1 h1
      have hL0nd : L0.bs.Nodup := nodup_of_get h.nodup h0
      have hLdnd : Ld.bs.Nodup := nodup_of_get h.nodup hd0
      have hdis : ∀ g ∈ L1.bs, g ∉ (setLy L0 q .no).bs := setLy_out q L0 .no L1 rfl hL0nd h1
      have h0D : ∀ g ∈ L0.bs, g ∈ (Ls.getD r .no).bs := fun g hg => by rw [hL0]; exact hg
      have hdD : ∀ g ∈ Ld.bs, g ∈ (Ls.getD d .no).bs := fun g hg => by rw [hLd]; exact hg
      have hdis2 : ∀ g ∈ L1.bs, g ∉ Ld.bs := fun g hg hg2 => hrd (getD_disj h.nodup (h0D g (hL1L0 g hg)) (hdD g hg2))
      have hmid : (Ly.bsL (Ls.set r (setLy L0 q .no))).Nodup := nodup_set h.nodup (hNb.nodup hL0nd) fun g hg j hj hgj => hj (getD_disj h.nodup hgj (h0D g (hNb.subset hg)))
      have hbs : ∀ g ∈ Ly.bsL Ls', g ∈ Ly.bsL Ls := fun g hg => by
        rw [← hLs'] at hg
        rcases bsL_set_mem hg with hg | ⟨j, _, hg⟩
        · rcases one_bs hkid g hg with hg | hg
          · exact bsL_get h0 g (hL1L0 g hg)
          · exact bsL_get hd0 g hg
        · rw [set_getD] at hg
          split at hg
          · exact bsL_get h0 g (hNb.subset hg)
          · exact getD_mem hg
      have hTX' : TC w RO Ls' X [v'] L1 := by
        have hsh : mapT T.p T.v X = X := mapT_id X
        have hro : roots X = [] := by
          cases X <;> simp at hX
          case own => rfl
          case bx l => simp [roots, shut_rootsL l hX]
        exact hsh ▸ TC_map (fp := .p) (fv := .v) (Ls' := Ls') (fun _ _ => rfl) (fun _ h => h) X [v'] L1 (fun _ _ => rfl) ⟨by rw [hro]; simp, by rw [hro]; simp⟩ hTX
      have hslot1 : ∀ j, slot (renL r q d [x] s1) j = mapT (renP r q d [x]) (renV r q d [x]) (slot s1 j) := fun j => by rw [renL, mapL_getD]
      have hlen1 : (renL r q d [x] s1).length = s.length := by rw [renL, mapL_length, hst]; simp
      have hsd1 : slot s1 d = slot s d := by rw [hst, slot_set, if_neg (fun e => hrd e.1.symm)]
      refine ⟨Ls', ⟨?_, ?_, fun j => ?_, ?_, fun g hg => h.own g (hbs g hg), h.ro⟩, ⟨rfl, rfl, rfl, Nat.le_refl _, fun _ _ _ => rfl, fun _ h => h, fun _ h => .inl h, fun g hg => .inl (hbs g hg)⟩⟩
      · rw [hsd]; simp [hlen1, h.len]
      · rw [hsd, ← hLs']; simp [hlen1, h.lenL]
      · rw [hsd, slot_set]
        by_cases ej : j = d
        · subst ej
          rw [if_pos ⟨rfl, by rw [hlen1]; exact hds⟩, getD_some hgetd]
          rw [hslot1, hsd1] at htd
          have hj := hmap j
          rw [hLd] at hj
          refine gsetV hN1 (by simp) hj htd fun c0 v2 hc0 hp => ?_
          have hc1 := getT_map (renP_cells r q j [x]) (renV_cells r q j [x]) [x] _ _ (show getT re (slot s j) [x] = some c from hc)
          rw [hc1] at hc0
          cases hc0
          have : v2 = v' := by
            rcases hcc with ⟨sz, e1, _⟩ | ⟨e1, _⟩
            · rw [e1] at hp
              have e2 : mapT (renP r q j [x]) (renV r q j [x]) (.v r q sz none) = .v j [x] sz none := by
                show renV r q j [x] r q sz none = _
                unfold renV
                rw [strip_self q hf]; simp
              rw [e2] at hp
              rcases hp with ⟨L', _, _, M0, M1, v3, e3, e4, e5, e6⟩ | ⟨_, y, e3, _⟩
              · rw [hgetd] at e3; cases e3
                rw [hlself, lyAt_nil] at e4; cases e4
                simp only [List.cons.injEq, and_true] at e5
                rw [e5]
                exact hval L1 v3 (topEq.refl _) ⟨sz, e1, e6⟩
              · cases e3
            · rw [e1] at hp
              have e2 : mapT (renP r q j [x]) (renV r q j [x]) (.p r (q ++ [.d 0])) = .p j [x, .d 0] := by
                show renP r q j [x] r (q ++ [.d 0]) = _
                unfold renP
                rw [strip_app q _ hf]; simp
              rw [e2] at hp
              rcases hp with ⟨L', _, _, M0, g, o, e3, e4, e5⟩ | ⟨_, y, e3, _⟩
              · rw [hgetd] at e3; cases e3
                rw [haself _ (by simp)] at e4
                simp only [List.cons.injEq, and_true] at e5
                exact hval2 v2 g o e4 ⟨_, e1⟩ e5
              · cases e3
          rw [this]; exact hTX'
        · rw [if_neg (fun e => ej e.1), hslot1]
          by_cases er : j = r
          · subst er
            rw [getD_some hgetr]
            have e1 : slot s1 j = t' := by rw [hst, slot_set, if_pos ⟨rfl, hrs⟩]
            rw [e1]
            have hj := hmap j
            rw [hL0] at hj
            have hmp := setT_map (fp := renP j q d [x]) (fv := renV j q d [x]) q _ _ _ hf ht'
            cases q with
            | nil =>
              rw [setT_nil] at ht'; cases ht'
              rw [setLy_nil]
              exact rfl
            | cons y q => exact gsetV (N := .no) rfl (by simp) hj hmp fun c0 v1 _ _ => rfl
          · rw [hgetD j er ej]
            have e1 : slot s1 j = slot s j := by rw [hst, slot_set, if_neg (fun e => er e.1)]
            rw [e1]
            exact hmap j
      · rw [← hLs']
        refine nodup_set hmid (one_nodup hkid hLdnd hL1nd hdis2) fun g hg j hj hgj => ?_
        rcases one_bs hkid g hg with hg | hg
        · rw [set_getD] at hgj
          split at hgj
          · exact hdis g hg hgj
          · rename_i hne
            exact hne ⟨getD_disj h.nodup hgj (h0D g (hL1L0 g hg)), hrl⟩
        · rw [set_getD] at hgj
          split at hgj
          · rename_i he
            exact hrd (getD_disj h.nodup (h0D g (hNb.subset hgj)) (hdD g hg))
          · exact hj (getD_disj h.nodup hgj (hdD g hg))
end
end Go.Os
set_option linter.unusedVariables false
namespace Go.Os
section
variable {P : Program} {w : World} {RO : Nat → Prop} {Ls : List Ly} {a : Act} {s : List T} {tm : Array Value} {E : Env}
theorem getP_len {s : List T} {d : Nat} {x : Sp} {c : T} (h : getP re s d [x] = some c) : d < s.length := by
  rcases Nat.lt_or_ge d s.length with h1 | h1
  · exact h1
  · unfold getP at h
    rw [slot_ge h1] at h
    cases x <;> simp [getT] at h
theorem freezeTo_ok (hE : E.A = re) (h : Rel w RO Ls s tm) {d : Nat} {x : Sp} {c : T} {s' : List T} (hf : freezeTo E s d x c = some s') :
    ∃ RO' Ls', Rel w RO' Ls' s' tm ∧ ExtA w RO Ls w RO' Ls' := by
  unfold freezeTo at hf
  simp only [Option.bind_eq_some_iff, hE] at hf
  obtain ⟨f, hfz, c', hc', hf⟩ := hf
  obtain ⟨RO1, Ls1, h1, hX, _⟩ := freezeAll_ok hE _ s [] f RO Ls h hfz
  split at hf
  · rename_i r q sz wd
    split at hf
    · rename_i hl
      simp only [Option.bind_eq_some_iff] at hf
      obtain ⟨y, hy, hf⟩ := hf
      split at hf
      · rename_i hone
        obtain ⟨t', ht', hst⟩ := setP_slot hf
        have hds := getP_len hc'
        have hdl : d < Ls1.length := by rw [h1.lenL]; exact hds
        have hd0 := getD_get hdl
        generalize hLd : Ls1.getD d .no = Ld at hd0
        obtain ⟨v', hfc, _⟩ := Rel.found (a := { tmps := tm, defers := [] }) h1 hc' (by simp) hd0
        have hly : lyAt Ld [x] = some .no := by
          rcases hfc with ⟨L', hL', hT⟩ | ⟨_, y, hy, _⟩
          · rw [hL', hT.1]
          · cases hy
        have hj := h1.slot d
        rw [hLd] at hj
        have hT' : TV w RO1 Ls1 t' (tm.getD d undef) (setLy Ld [x] .no) := by
          refine gsetV (N := .no) rfl (by simp) hj ht' fun c0 v2 hc0 hp => ?_
          have e : getT re (slot f.1 d) [x] = some (.v r q sz wd) := hc'
          rw [e] at hc0; cases hc0
          rcases hp with ⟨L', hL', hT⟩ | ⟨_, z, hz, _⟩
          · exact ⟨frz_okC h1 (fun _ h => h) hE _ [v2] L' y hT hy (by rw [hl]; simp), .inl rfl⟩
          · cases hz
        rw [setLy_self [x] Ld .no hly] at hT'
        refine ⟨RO1, Ls1, ⟨by rw [hst]; simpa using h1.len, by rw [hst]; simpa using h1.lenL, fun j => ?_, h1.nodup, h1.own, h1.ro⟩, hX.all⟩
        rw [hst, slot_set]
        by_cases e : j = d
        · subst e
          rw [if_pos ⟨rfl, hds⟩, hLd]; exact hT'
        · rw [if_neg (fun h => e h.1)]; exact h1.slot j
      · cases hf
    · cases hf
  · cases hf
theorem outV_ok (hE : E.A = re) (h : Rel w RO Ls s tm) {d : Nat} {x : Sp} {s' : List T} (hf : outV E s d x = some s') :
    ∃ RO' Ls', Rel w RO' Ls' s' tm ∧ ExtA w RO Ls w RO' Ls' := by
  unfold outV at hf
  simp only [Option.bind_eq_some_iff, hE] at hf
  obtain ⟨c, hc, hf⟩ := hf
  split at hf
  · cases hf; exact ⟨RO, Ls, h, ExtA.refl _ _ _⟩
  · split at hf
    · rename_i r q sz wd _
      split at hf
      · rename_i hcond
        simp only [Bool.and_eq_true] at hcond
        have hwd : wd = none := by cases wd <;> simp_all
        subst hwd
        obtain ⟨Ls', h1, h2⟩ := moveTo_ok hE h hc (.inl ⟨sz, rfl, hcond.2⟩) hf
        exact ⟨RO, Ls', h1, h2⟩
      · exact freezeTo_ok hE h hf
    · cases hf
theorem outN_ok {f : List T → Sp → Option (List T)} {mk : Nat → Sp} (hf : ∀ (s : List T) (RO : Nat → Prop) (Ls : List Ly) (x : Sp) (s' : List T), Rel w RO Ls s tm → f s x = some s' → ∃ RO' Ls', Rel w RO' Ls' s' tm ∧ ExtA w RO Ls w RO' Ls') :
    ∀ (n k : Nat) (s s' : List T) (RO : Nat → Prop) (Ls : List Ly), Rel w RO Ls s tm → outN f mk n k s = some s' → ∃ RO' Ls', Rel w RO' Ls' s' tm ∧ ExtA w RO Ls w RO' Ls'
  | 0, k, s, s', RO, Ls, h, he => by simp only [outN, Option.some.injEq] at he; subst he; exact ⟨RO, Ls, h, ExtA.refl _ _ _⟩
  | n + 1, k, s, s', RO, Ls, h, he => by
    simp only [outN, Option.bind_eq_some_iff] at he
    obtain ⟨s1, h1, he⟩ := he
    obtain ⟨RO1, Ls1, h2, h3⟩ := hf s RO Ls _ s1 h h1
    obtain ⟨RO2, Ls2, h4, h5⟩ := outN_ok hf n (k + 1) s1 s' RO1 Ls1 h2 he
    exact ⟨RO2, Ls2, h4, h3.trans h5⟩
theorem getLast_drop {q : Pth} {x : Sp} (h : q.getLast? = some x) : q = q.dropLast ++ [x] := by
  have hn : q ≠ [] := fun e => by rw [e] at h; simp at h
  rw [List.getLast?_eq_some_getLast hn, Option.some.injEq] at h
  rw [← h]; exact (List.dropLast_concat_getLast hn).symm
theorem moveBox_ok (hE : E.A = re) (h : Rel w RO Ls s tm) {d : Nat} {x : Sp} {s' : List T} (hf : moveBox E s d x = some s') :
    ∃ RO' Ls', Rel w RO' Ls' s' tm ∧ ExtA w RO Ls w RO' Ls' := by
  unfold moveBox at hf
  simp only [Option.bind_eq_some_iff, hE] at hf
  obtain ⟨c, hc, hf⟩ := hf
  split at hf
  · rename_i r q
    split at hf
    · rename_i hl
      simp only [Option.bind_eq_some_iff] at hf
      obtain ⟨b, hb, hf⟩ := hf
      split at hf
      · rename_i cs
        split at hf
        · have hq := getLast_drop hl
          obtain ⟨Ls', h1, h2⟩ := moveTo_ok hE h hc (.inr ⟨by rw [← hq], cs, hb⟩) hf
          exact ⟨RO, Ls', h1, h2⟩
        · cases hf
      · cases hf
    · cases hf
  · cases hf
theorem outP_ok (hE : E.A = re) (h : Rel w RO Ls s tm) {d : Nat} {x : Sp} {s' : List T} (hf : outP E s d x = some s') :
    ∃ RO' Ls', Rel w RO' Ls' s' tm ∧ ExtA w RO Ls w RO' Ls' := by
  unfold outP at hf
  simp only [Option.bind_eq_some_iff] at hf
  obtain ⟨c, hc, hf⟩ := hf
  split at hf
  · split at hf
    · split at hf
      · simp only [Option.bind_eq_some_iff] at hf
        obtain ⟨s1, h1, hf⟩ := hf
        obtain ⟨RO1, Ls1, h2, h3⟩ := outN_ok (fun s RO Ls x s' h he => outV_ok hE h he) _ _ s s1 RO Ls h h1
        obtain ⟨RO2, Ls2, h4, h5⟩ := moveBox_ok hE h2 hf
        exact ⟨RO2, Ls2, h4, h3.trans h5⟩
      · cases hf
    · exact moveBox_ok hE h hf
  · exact outV_ok hE h hf
theorem outG_ok (hE : E.A = re) (h : Rel w RO Ls s tm) {j : Nat} {s' : List T} (hf : outG E s j = some s') : ∃ RO' Ls', Rel w RO' Ls' s' tm ∧ ExtA w RO Ls w RO' Ls' := by
  unfold outG at hf
  split at hf
  · exact outN_ok (fun s RO Ls x s' h he => outP_ok hE h he) _ _ s s' RO Ls h hf
  · cases hf; exact ⟨RO, Ls, h, ExtA.refl _ _ _⟩
theorem outGs_ok (hE : E.A = re) : ∀ (n j : Nat) (s s' : List T) (RO : Nat → Prop) (Ls : List Ly), Rel w RO Ls s tm → outGs E n j s = some s' → ∃ RO' Ls', Rel w RO' Ls' s' tm ∧ ExtA w RO Ls w RO' Ls'
  | 0, j, s, s', RO, Ls, h, he => by simp only [outGs, Option.some.injEq] at he; subst he; exact ⟨RO, Ls, h, ExtA.refl _ _ _⟩
  | n + 1, j, s, s', RO, Ls, h, he => by
    simp only [outGs, Option.bind_eq_some_iff] at he
    obtain ⟨s1, h1, he⟩ := he
    obtain ⟨RO1, Ls1, h2, h3⟩ := outG_ok hE h h1
    obtain ⟨RO2, Ls2, h4, h5⟩ := outGs_ok hE n (j + 1) s1 s' RO1 Ls1 h2 he
    exact ⟨RO2, Ls2, h4, h3.trans h5⟩
theorem outB_ok (hE : E.A = re) : ∀ (l : List T) (j : Nat) (s s' : List T) (RO : Nat → Prop) (Ls : List Ly), Rel w RO Ls s tm → outB E j l s = some s' → ∃ RO' Ls', Rel w RO' Ls' s' tm ∧ ExtA w RO Ls w RO' Ls'
  | [], j, s, s', RO, Ls, h, he => by simp only [outB, Option.some.injEq] at he; subst he; exact ⟨RO, Ls, h, ExtA.refl _ _ _⟩
  | t :: l, j, s, s', RO, Ls, h, he => by
    unfold outB at he
    split at he
    · split at he
      · simp only [Option.bind_eq_some_iff] at he
        obtain ⟨s1, h1, he⟩ := he
        obtain ⟨RO1, Ls1, h2, h3⟩ := outN_ok (fun s RO Ls x s' h he => outV_ok hE h he) _ _ s s1 RO Ls h h1
        obtain ⟨RO2, Ls2, h4, h5⟩ := outB_ok hE l (j + 1) s1 s' RO1 Ls1 h2 he
        exact ⟨RO2, Ls2, h4, h3.trans h5⟩
      · cases he
    · exact outB_ok hE l (j + 1) s s' RO Ls h he
def gV (t : T) (v : Value) : Value :=
  match t with
  | .r _ => v
  | .a _ => v
  | _ => .tuple #[v]
theorem gOf_ok {t : T} {v : Value} {L : Ly} (h : TV w RO Ls t v L) (hb : L.bs = []) : ∃ L', TV w RO Ls (gOf t) (gV t v) L' ∧ L'.bs = [] := by
  cases t with
  | r x => exact ⟨L, h, hb⟩
  | a l =>
    obtain ⟨vs, cs, hv, hL, h⟩ := h
    exact ⟨L, ⟨vs, cs, by rw [show gV (.a l) v = v from rfl, hv]; rfl, hL, h⟩, hb⟩
  | _ => exact ⟨.ag [L], ⟨#[v], [L], rfl, rfl, v, [], L, [], rfl, rfl, h, rfl, rfl⟩, by simp [Ly.bs, Ly.bsL, hb]⟩
def ResV (w : World) (RO : Nat → Prop) (Ls : List Ly) : List T → List Value → Prop
  | [], vs => vs = []
  | t :: l, vs => ∃ v vs' L, vs = v :: vs' ∧ TV w RO Ls t v L ∧ L.bs = [] ∧ ResV w RO Ls l vs'
theorem ResV.len : ∀ {ts : List T} {vs : List Value}, ResV w RO Ls ts vs → vs.length = ts.length
  | [], vs, h => by rw [show vs = [] from h]; rfl
  | t :: l, vs, h => by
    obtain ⟨v, vs', L, hv, _, _, h⟩ := h
    rw [hv]; simp [h.len]
theorem ResV.ghost : ∀ {ts : List T} {vs : List Value}, ResV w RO Ls ts vs → ∃ Lts : List Ly, Lts.length = ts.length ∧ Ly.bsL Lts = [] ∧ ∀ j, TV w RO Ls (slot (ts.map gOf) j) ((List.zipWith gV ts vs).getD j undef) (Lts.getD j .no)
  | [], vs, h => ⟨[], rfl, rfl, fun j => by simp [slot]; rfl⟩
  | t :: l, vs, h => by
    obtain ⟨v, vs', L, hv, h1, h2, h⟩ := h
    subst hv
    obtain ⟨Lts, i1, i2, i3⟩ := h.ghost
    obtain ⟨L', h3, h4⟩ := gOf_ok h1 h2
    refine ⟨L' :: Lts, by simp [i1], by simp [Ly.bsL, h4, i2], fun j => ?_⟩
    cases j with
    | zero => exact h3
    | succ j => exact i3 j
theorem slot_append (s ts : List T) (j : Nat) : slot (s ++ ts) j = if j < s.length then slot s j else slot ts (j - s.length) := by
  simp only [slot, List.getD_eq_getElem?_getD]
  rcases Nat.lt_or_ge j s.length with h | h
  · rw [if_pos h, List.getElem?_append_left h]
  · rw [if_neg (by omega), List.getElem?_append_right h]
theorem getD_append (s ts : List Ly) (j : Nat) : (s ++ ts).getD j .no = if j < s.length then s.getD j .no else ts.getD (j - s.length) .no := by
  simp only [List.getD_eq_getElem?_getD]
  rcases Nat.lt_or_ge j s.length with h | h
  · rw [if_pos h, List.getElem?_append_left h]
  · rw [if_neg (by omega), List.getElem?_append_right h]
theorem rel_push (h : Rel w RO Ls s tm) {ts : List T} {gs : List Value} {Lts : List Ly} (hl : gs.length = ts.length) (hL : Lts.length = ts.length) (hb : Ly.bsL Lts = [])
    (hT : ∀ j, TV w RO Ls (slot ts j) (gs.getD j undef) (Lts.getD j .no)) : Rel w RO (Ls ++ Lts) (s ++ ts) (tm ++ gs.toArray) := by
  have hk : ∀ rs, Keeps Ls (Ls ++ Lts) rs := fun rs r _ L0 h0 _ => by rw [List.getElem?_append_left (List.getElem?_eq_some_iff.1 h0).1]; exact h0
  refine ⟨by simp [h.len, hl], by simp [h.lenL, hL], fun j => ?_, by rw [bsL_append, hb, List.append_nil]; exact h.nodup, fun g hg => h.own g (by rw [bsL_append, hb, List.append_nil] at hg; exact hg), h.ro⟩
  rw [slot_append, getD_append]
  have hs : (tm ++ gs.toArray).getD j undef = if j < s.length then tm.getD j undef else gs.getD (j - s.length) undef := by
    rw [← h.len]
    simp only [Array.getD_eq_getD_getElem?, List.getD_eq_getElem?_getD]
    rcases Nat.lt_or_ge j tm.size with hj | hj
    · rw [if_pos hj, Array.getElem?_append_left hj]
    · rw [if_neg (by omega), Array.getElem?_append_right hj]; simp
  rw [hs]
  by_cases hj : j < s.length
  · rw [if_pos hj, if_pos hj, if_pos (by rw [h.lenL]; exact hj)]
    exact TV_frame (fun _ _ => rfl) (fun _ h => h) (fun _ _ => rfl) (hk _) (h.slot j)
  · rw [if_neg hj, if_neg hj, if_neg (by rw [h.lenL]; exact hj), h.lenL]
    exact TV_frame (fun _ _ => rfl) (fun _ h => h) (fun _ _ => rfl) (hk _) (hT _)
theorem mkAgg_own {l : List T} {vs : Array Value} {cs : List Ly} (h : TCL w RO Ls l vs.toList cs) : ∃ L, TV w RO Ls (mkAgg l) (.agg vs) L ∧ (L.bs = Ly.bsL cs ∨ L.bs = []) := by
  unfold mkAgg
  cases hl : toRL l with
  | some xs => exact ⟨.no, ⟨⟨vs, rfl, toRL_ok l vs.toList cs xs h hl⟩, .inl rfl⟩, .inr rfl⟩
  | none => exact ⟨.ag cs, ⟨vs, cs, rfl, rfl, h⟩, .inl (by simp [Ly.bs])⟩
theorem shut_mkAgg {l : List T} (h : shutL l = true) : shut (mkAgg l) = true := by
  unfold mkAgg
  cases toRL l with
  | some xs => rfl
  | none => simpa [shut] using h
theorem takeOne_ok {g c : T} {v : Value} {L : Ly} (hg : TV w RO Ls g (.tuple #[v]) L) (hr : takeOne g = some c) : ∃ L', TV w RO [] c v L' ∧ (L'.bs = L.bs ∨ L'.bs = []) := by
  unfold takeOne at hr
  split at hr
  · split at hr
    · split at hr
      · split at hr
        · rename_i hc
          simp only [Bool.and_eq_true] at hc
          cases hr
          obtain ⟨tv, cs, hv, hL, hT⟩ := hg
          simp only [List.cons.injEq, and_true] at hv
          have hv : Value.tuple #[v] = .tuple tv := hv
          simp only [Value.tuple.injEq] at hv
          subst hv
          obtain ⟨v1, vs', L1, cs', hv1, hc1, hT1, hrest⟩ := hT
          simp only [List.cons.injEq] at hv1
          obtain ⟨rfl, _⟩ := hv1
          have : cs' = [] := hrest.2
          subst this
          exact ⟨L1, TV_shut hc.1 (TV_of_cell hc.2 hT1), .inl (by rw [hL, hc1]; simp [Ly.bs, Ly.bsL])⟩
        · cases hr
      · cases hr
    · cases hr
  · cases hr
theorem takeAgg_ok {g c : T} {v : Value} {L : Ly} (hg : TV w RO Ls g v L) (hr : takeAgg g = some c) : ∃ L', TV w RO [] c v L' ∧ (L'.bs = L.bs ∨ L'.bs = []) := by
  unfold takeAgg at hr
  split at hr
  · split at hr
    · split at hr
      · rename_i hs
        cases hr
        obtain ⟨tv, cs, hv, hL, hT⟩ := hg
        simp only [List.cons.injEq, and_true] at hv
        have hv : v = .agg tv := hv
        obtain ⟨L', h1, h2⟩ := mkAgg_own hT
        rw [hv]
        exact ⟨L', TV_shut (shut_mkAgg hs) h1, by rw [hL]; simpa [Ly.bs] using h2⟩
      · cases hr
    · cases hr
  · cases hr
theorem resAt_ok {t g c : T} {v : Value} {L0 L : Ly} (h0 : TV w RO Ls t v L0) (hb0 : L0.bs = []) {RO' : Nat → Prop} {Ls' : List Ly} (hro : ∀ g, RO g → RO' g) (hg : TV w RO' Ls' g (gV t v) L) (hr : resAt g t = some c) :
    ∃ L', TV w RO' [] c v L' ∧ (L'.bs = L.bs ∨ L'.bs = []) := by
  cases t with
  | r x =>
    simp only [resAt, Option.some.injEq] at hr; subst hr
    exact ⟨L0, TV_shut rfl (TV_frame (Ls' := Ls) (fun _ _ => rfl) hro (fun _ _ => rfl) (fun r _ M hM _ => hM) h0), .inr hb0⟩
  | a l0 => exact takeAgg_ok hg hr
  | _ => exact takeOne_ok hg hr
end
end Go.Os
set_option linter.unusedVariables false
namespace Go.Os
def exOf : Ex → Exit
  | .nm => .normal
  | .ex id => .exit id
  | .rt => .ret
def kp (js : List Nat) (c : Code) : Prop := js = [] ∨ keepsC js c = true
def LpOK (P : Program) (lp : Code → List T → Option (Ex × List T)) : Prop :=
  ∀ c s r, lp c s = some r → ∀ (js : List Nat) (w : World) (RO : Nat → Prop) (Ls : List Ly) (a : Act) (Q : Exit → Act → World → Prop), kp js c → Rel w RO Ls s a.tmps →
    (∀ a' w' RO' Ls', Rel w' RO' Ls' r.2 a'.tmps → Stay (· ∈ js) a a' → ExtA w RO Ls w' RO' Ls' → Q (exOf r.1) a' w') → (Code.loop c).wp P Q a w
theorem keepP_a {k r q l} : keepP k r q ≠ .a l := by unfold keepP; split <;> simp
theorem keepP_r {k r q x} : keepP k r q ≠ .r x := by unfold keepP; split <;> simp
theorem keepV_a {k r q sz w l} : keepV k r q sz w ≠ .a l := by unfold keepV; split <;> simp
theorem keepV_r {k r q sz w x} : keepV k r q sz w ≠ .r x := by unfold keepV; split <;> simp
theorem cleanL_slot (k : Nat → Bool) : ∀ (s : List T) (j x : Nat), slot (cleanL k j s) x = if k (j + x) = true then mapT (keepP k) (keepV k) (slot s x) else .u
  | [], j, x => by simp [cleanL, slot_nil, mapT]
  | t :: l, j, x => by
    cases x with
    | zero =>
      simp only [cleanL, slot_cons_zero, Nat.add_zero]
      cases hk : k j <;> rfl
    | succ x =>
      simp only [cleanL, slot_cons_succ]
      rw [cleanL_slot k l (j + 1) x, show j + 1 + x = j + (x + 1) by omega]
theorem cleanL_len (k : Nat → Bool) : ∀ (s : List T) (j : Nat), (cleanL k j s).length = s.length
  | [], _ => rfl
  | t :: l, j => by simp [cleanL, cleanL_len k l (j + 1)]
theorem rel_clean {w : World} {RO : Nat → Prop} {Ls : List Ly} {s : List T} {tm : Array Value} (h : Rel w RO Ls s tm) (k : Nat → Bool) : ∃ Ls', Rel w RO Ls' (cleanL k 0 s) tm ∧ ExtA w RO Ls w RO Ls' := by
  let Ln : List Ly := (List.range Ls.length).map fun x => if k x = true then Ls.getD x .no else .no
  have hLn : ∀ x, Ln.getD x .no = if k x = true then Ls.getD x .no else .no := fun x => by
    simp only [Ln]
    rcases Nat.lt_or_ge x Ls.length with hx | hx
    · rw [List.getD_eq_getElem?_getD, List.getElem?_map, List.getElem?_range hx]; rfl
    · rw [List.getD_eq_getElem?_getD, List.getElem?_eq_none (by simpa using hx), List.getD_eq_getElem?_getD, List.getElem?_eq_none hx]
      simp
  have hLl : Ln.length = Ls.length := by simp [Ln]
  have hsub : ∀ r, (Ln.getD r .no).bs = (Ls.getD r .no).bs ∨ (Ln.getD r .no).bs = [] := fun r => by
    rw [hLn]
    split
    · exact .inl rfl
    · exact .inr rfl
  have hbs : ∀ g ∈ Ly.bsL Ln, g ∈ Ly.bsL Ls := fun g hg => by
    obtain ⟨r, hr⟩ := mem_getD hg
    rcases hsub r with h1 | h1
    · rw [h1] at hr; exact getD_mem hr
    · rw [h1] at hr; simp at hr
  refine ⟨Ln, ⟨by rw [cleanL_len]; exact h.len, by rw [cleanL_len, hLl]; exact h.lenL, fun j => ?_, nodup_sub h.nodup hsub, fun g hg => h.own g (hbs g hg), h.ro⟩,
    ⟨rfl, rfl, rfl, Nat.le_refl _, fun _ _ _ => rfl, fun _ h => h, fun _ h => .inl h, fun g hg => .inl (hbs g hg)⟩⟩
  rw [cleanL_slot, hLn, Nat.zero_add]
  cases hk : k j with
  | false => simp only [Bool.false_eq_true, if_false]; rfl
  | true =>
    simp only [if_true]
    refine TV_map (fun _ _ => rfl) (fun _ h => h) (fun _ _ => rfl) (fun _ _ _ => keepP_a) (fun _ _ _ => keepP_r) (fun _ _ _ _ _ => keepV_a) (fun _ _ _ _ _ => keepV_r) ?_ (h.slot j)
    have hget : ∀ r L0, Ls[r]? = some L0 → k r = true → Ln[r]? = some L0 := fun r L0 h0 hkr => by
      rw [getD_get (by rw [hLl]; exact (List.getElem?_eq_some_iff.1 h0).1), hLn, hkr]
      simp [List.getD_eq_getElem?_getD, h0]
    refine ⟨fun r _ q L0 g o h0 had => ?_, fun r _ q sz wd L0 L1 x h0 h1 hv => ?_⟩
    · unfold keepP
      cases hkr : k r with
      | false => rfl
      | true => exact ⟨rfl, L0, g, o, hget r L0 h0 hkr, had, rfl⟩
    · unfold keepV
      cases hkr : k r with
      | false => rfl
      | true => exact ⟨rfl, L0, L1, x, hget r L0 h0 hkr, h1, rfl, hv⟩
theorem fcBs_id {α : Type} : ∀ (m : List Bool) (k : List Bool → α), fcBs m k = k m
  | [], _ => rfl
  | b :: m, k => by cases b <;> simp only [fcBs] <;> exact fcBs_id m _
theorem cleanZ_eq (k : Nat → Bool) : ∀ (m : List Bool) (s : List T) (j : Nat), (∀ x, k (j + x) = m.getD x false) → cleanZ k m s = cleanL k j s
  | [], [], _, _ => rfl
  | [], t :: l, j, h => by
    have h0 := h 0
    simp only [Nat.add_zero, List.getD_nil] at h0
    have := cleanZ_eq k [] l (j + 1) fun x => by rw [show j + 1 + x = j + (x + 1) by omega, h]; rfl
    simp only [cleanZ, cleanL, List.map_cons, h0] at this ⊢
    rw [this]
  | b :: m, [], _, _ => rfl
  | b :: m, t :: l, j, h => by
    have h0 := h 0
    simp only [Nat.add_zero, List.getD_cons_zero] at h0
    have := cleanZ_eq k m l (j + 1) fun x => by rw [show j + 1 + x = j + (x + 1) by omega, h]; simp
    simp only [cleanZ, cleanL, h0, this]
theorem rel_cleanS {w : World} {RO : Nat → Prop} {Ls : List Ly} {s : List T} {tm : Array Value} (h : Rel w RO Ls s tm) (m : List Bool) : ∃ Ls', Rel w RO Ls' (clean m s) tm ∧ ExtA w RO Ls w RO Ls' := by
  unfold clean
  rw [fcBs_id, fcBs_id, cleanZ_eq _ _ _ 0 fun x => by rw [Nat.zero_add]]
  exact rel_clean h _
section
variable {P : Program} {E : Env}
theorem ev_ok (hE : E.A = re) (hti : E.ti = tiOf P) (hcall : CallOK P E.call) (hlp : LpOK P E.lp) (hmix : P.follows .mixedOrders = true) : ∀ (c : Code) (s : List T) (r : Ex × List T), ev E c s = some r →
    ∀ (js : List Nat) (w : World) (RO : Nat → Prop) (Ls : List Ly) (a : Act) (Q : Exit → Act → World → Prop), kp js c → Rel w RO Ls s a.tmps →
    (∀ a' w' RO' Ls', Rel w' RO' Ls' r.2 a'.tmps → Stay (· ∈ js) a a' → ExtA w RO Ls w' RO' Ls' → Q (exOf r.1) a' w') → c.wp P Q a w := by
  intro c
  induction c with
  | skip =>
    intro s r he js w RO Ls a Q hk h hQ
    simp only [ev, Option.some.injEq] at he; subst he
    exact wp_skip (hQ a w RO Ls h (Stay.refl _ _) (ExtA.refl _ _ _))
  | ret =>
    intro s r he js w RO Ls a Q hk h hQ
    simp only [ev, Option.some.injEq] at he; subst he
    exact wp_ret (hQ a w RO Ls h (Stay.refl _ _) (ExtA.refl _ _ _))
  | exit n =>
    intro s r he js w RO Ls a Q hk h hQ
    simp only [ev, Option.some.injEq] at he; subst he
    exact wp_exit (hQ a w RO Ls h (Stay.refl _ _) (ExtA.refl _ _ _))
  | region id ops d =>
    intro s r he js w RO Ls a Q hk h hQ
    simp only [ev, Option.map_eq_some_iff] at he
    obtain ⟨s', he, rfl⟩ := he
    refine region_ok (D := (· ∈ js)) hE hti hcall hmix (fun o ho d hd hm => ?_) he h hQ
    rcases hk with rfl | hk
    · simp at hm
    · simp only [keepsC, List.all_eq_true] at hk
      have := hk o ho
      simp only [hd] at this
      simp only [Bool.not_eq_true', List.contains_eq_mem, decide_eq_false_iff_not] at this
      exact this hm
  | seq x y ihx ihy =>
    intro s r he js w RO Ls a Q hk h hQ
    simp only [ev, Option.bind_eq_some_iff] at he
    obtain ⟨r1, h1, he⟩ := he
    have hkx : kp js x := hk.imp id fun hk => by simp only [keepsC, Bool.and_eq_true] at hk; exact hk.1
    have hky : kp js y := hk.imp id fun hk => by simp only [keepsC, Bool.and_eq_true] at hk; exact hk.2
    refine wp_seq (ihx s r1 h1 js w RO Ls a _ hkx h fun a' w' RO' Ls' hR hS hX => ?_)
    obtain ⟨x1, s1⟩ := r1
    cases x1 with
    | nm =>
      simp only at he
      split at he
      · exact ihy _ r he js w' RO' Ls' a' Q hky hR fun a2 w2 RO2 Ls2 h2 h3 h4 => hQ a2 w2 RO2 Ls2 h2 (hS.trans h3) (hX.trans h4)
      · rename_i L hL
        simp only [Option.map_eq_some_iff] at he
        obtain ⟨z, hz, rfl⟩ := he
        obtain ⟨Lc, hRc, hXc⟩ := rel_cleanS hR L.1
        refine ihy _ z hz js w' RO' Lc a' Q hky hRc fun a2 w2 RO2 Ls2 h2 h3 h4 => ?_
        obtain ⟨Ld, hRd, hXd⟩ := rel_cleanS h2 L.2
        exact hQ a2 w2 RO2 Ld hRd (hS.trans h3) (hX.trans (hXc.trans (h4.trans hXd)))
    | ex id =>
      simp only [Option.some.injEq] at he; subst he
      exact hQ a' w' RO' Ls' hR hS hX
    | rt =>
      simp only [Option.some.injEq] at he; subst he
      exact hQ a' w' RO' Ls' hR hS hX
  | cond t x y ihx ihy =>
    intro s r he js w RO Ls a Q hk h hQ
    simp only [ev, Option.bind_eq_some_iff] at he
    obtain ⟨b, hb, he⟩ := he
    obtain ⟨L, hT, _⟩ := opd_ok h t
    have hv := boolT_ok hT hb
    have hkx : kp js x := hk.imp id fun hk => by simp only [keepsC, Bool.and_eq_true] at hk; exact hk.1
    have hky : kp js y := hk.imp id fun hk => by simp only [keepsC, Bool.and_eq_true] at hk; exact hk.2
    cases b with
    | true => exact wp_cond_true hv (ihx s r he js w RO Ls a Q hkx h hQ)
    | false => exact wp_cond_false hv (ihy s r he js w RO Ls a Q hky h hQ)
  | block n x ihx =>
    intro s r he js w RO Ls a Q hk h hQ
    simp only [ev, Option.map_eq_some_iff] at he
    obtain ⟨r1, h1, he⟩ := he
    have hkx : kp js x := hk.imp id fun hk => by simpa only [keepsC] using hk
    refine wp_block (ihx s r1 h1 js w RO Ls a _ hkx h fun a' w' RO' Ls' hR hS hX => ?_)
    obtain ⟨x1, s1⟩ := r1
    cases x1 with
    | nm => subst he; exact hQ a' w' RO' Ls' hR hS hX
    | rt => subst he; exact hQ a' w' RO' Ls' hR hS hX
    | ex m =>
      simp only at he
      show Exit.inBlock n Q (.exit m) a' w'
      unfold Exit.inBlock
      simp only
      by_cases hm : m = n
      · subst hm
        simp only [beq_self_eq_true] at he
        subst he
        rw [if_pos rfl]
        exact hQ a' w' RO' Ls' hR hS hX
      · rw [show (m == n) = false by simpa using hm] at he
        simp only at he
        subst he
        rw [if_neg hm]
        exact hQ a' w' RO' Ls' hR hS hX
  | loop x ihx =>
    intro s r he js w RO Ls a Q hk h hQ
    simp only [ev] at he
    exact hlp x s r he js w RO Ls a Q (hk.imp id fun hk => by simpa only [keepsC] using hk) h hQ
  | _ => intro s r he; simp [ev] at he
theorem wp_loop_fuel {c : Code} {Q : Exit → Act → World → Prop} (J : Nat → Act → World → Prop) (round : ∀ n a w, J n a w → c.wp P (Exit.then (fun a' w' => ∃ m, m < n ∧ J m a' w') Q) a w) {n : Nat} {a : Act} {w : World} (h0 : J n a w) :
    (Code.loop c).wp P Q a w := by
  intro b k cs
  have key : ∀ n a w, J n a w → ∃ e a' w', Q e a' w' ∧ Arrives P (lone (b.at a (.code c :: .inLoop c :: k)) cs w) b k cs e a' w' := by
    intro n
    induction n using Nat.strongRecOn with
    | _ n ih =>
      intro a w hJ
      obtain ⟨e, a₁, w₁, hq, harr⟩ := round n a w hJ b (.inLoop c :: k) cs
      cases e with
      | normal =>
        obtain ⟨m, hm, hJ₁⟩ := hq
        obtain ⟨e₂, a₂, w₂, hq₂, harr₂⟩ := ih m hm a₁ w₁ hJ₁
        exact ⟨e₂, a₂, w₂, hq₂, .of_steps (Steps.trans harr (.one step_inLoop)) harr₂⟩
      | exit id => exact ⟨_, a₁, w₁, hq, .pass (x := .inLoop c) rfl (fun _ _ => .inl (by simp)) harr⟩
      | goto l => exact ⟨_, a₁, w₁, hq, .pass (x := .inLoop c) rfl (fun _ _ => .inl (by simp)) harr⟩
      | ret => exact ⟨_, a₁, w₁, hq, .pass (x := .inLoop c) rfl (fun _ _ => .inl (by simp)) harr⟩
      | panic ch => exact ⟨_, a₁, w₁, hq, .pass (x := .inLoop c) rfl (fun _ _ => .inl (by simp)) harr⟩
      | outgrown => exact ⟨_, a₁, w₁, hq, .pass (x := .inLoop c) rfl (fun _ _ => .inl (by simp)) harr⟩
  obtain ⟨e, a', w', hq, harr⟩ := key _ a w h0
  exact ⟨e, a', w', hq, .of_steps (.one step_loop) harr⟩
theorem lpF_ok {A : Pr} (hA : A = re) {call : FuncId → List T → Option (T × List (List T))} (hcall : CallOK P call) (hmix : P.follows .mixedOrders = true) (lv : FH) : ∀ n, LpOK P (lpF P A call lv n) := by
  intro n
  induction n using Nat.strongRecOn with
  | _ n ih =>
    intro c s r he js w RO Ls a Q hk h hQ
    refine wp_loop_fuel (n := n) (fun m a1 w1 => m ≤ n ∧ ∃ s1 RO1 Ls1, lpF P A call lv m c s1 = some r ∧ Rel w1 RO1 Ls1 s1 a1.tmps ∧ Stay (· ∈ js) a a1 ∧ ExtA w RO Ls w1 RO1 Ls1) ?_
      ⟨Nat.le_refl _, s, RO, Ls, he, h, Stay.refl _ _, ExtA.refl _ _ _⟩
    rintro m a1 w1 ⟨hm, s1, RO1, Ls1, he1, hR, hS, hX⟩
    cases m with
    | zero => simp [lpF] at he1
    | succ m =>
      simp only [lpF, Option.bind_eq_some_iff] at he1
      obtain ⟨r1, hr1, he1⟩ := he1
      obtain ⟨Lc, hRc, hXc⟩ := rel_cleanS hR (lv.lp (firstReg c)).1
      refine ev_ok (E := envOf P A call (lpF P A call lv m) lv.pt) hA rfl hcall (ih m (by omega)) hmix c _ r1 hr1 js w1 RO1 Lc a1 _ hk hRc fun a2 w2 RO2 Ls2 h2 h3 h4 => ?_
      obtain ⟨x1, s2⟩ := r1
      cases x1 with
      | nm => exact ⟨m, by omega, by omega, s2, RO2, Ls2, he1, h2, hS.trans h3, hX.trans (hXc.trans h4)⟩
      | ex id =>
        simp only [Option.some.injEq] at he1; subst he1
        obtain ⟨Ld, hRd, hXd⟩ := rel_cleanS h2 (lv.lp (firstReg c)).2
        exact hQ a2 w2 RO2 Ld hRd (hS.trans h3) (hX.trans (hXc.trans (h4.trans hXd)))
      | rt =>
        simp only [Option.some.injEq] at he1; subst he1
        obtain ⟨Ld, hRd, hXd⟩ := rel_cleanS h2 (lv.lp (firstReg c)).2
        exact hQ a2 w2 RO2 Ld hRd (hS.trans h3) (hX.trans (hXc.trans (h4.trans hXd)))
end
end Go.Os
set_option linter.unusedVariables false
namespace Go.Os
section
variable {P : Program} {w : World} {RO RO' : Nat → Prop} {Ls : List Ly} {a : Act} {s : List T} {tm : Array Value} {E : Env}
def resM (tm : Array Value) : ResultVar → Sem Value
  | .tmp t => pure (tm.getD t undef)
  | .cell a t => do loadVar t (← asAddr (tm.getD a undef))
theorem resOf_ok (hE : E.A = re) (hti : E.ti = tiOf P) (h : Rel w RO Ls s a.tmps) {x : ResultVar} {t : T} (hr : resOf E s x = some t) :
    ∃ v L, (resM a.tmps x).run P w = .ok v w ∧ TV w RO Ls t v L ∧ L.bs = [] := by
  cases x with
  | tmp t0 =>
    simp only [resOf, Option.some.injEq] at hr
    subst hr
    obtain ⟨L, hT, hb⟩ := opd_ok h (.tmp t0)
    exact ⟨_, L, rfl, hT, hb⟩
  | cell t0 ty =>
    simp only [resOf, Option.bind_eq_some_iff, hti] at hr
    obtain ⟨i, hi, hr⟩ := hr
    obtain ⟨L, hT, hb⟩ := opd_ok h (.tmp t0)
    obtain ⟨ad, v', L', hv, hrun, hT', hb'⟩ := loadT_ok hE h hi hT hr
    refine ⟨v', L', ?_, hT', hb'⟩
    have hv : a.tmps.getD t0 undef = .pointer (some ad) := hv
    simp [resM, hv, asAddr, hrun]
theorem resTs_ok (hE : E.A = re) (hti : E.ti = tiOf P) (h : Rel w RO Ls s a.tmps) : ∀ (l : List ResultVar) (ts : List T), resTs E s l = some ts → ∃ vs, (l.mapM (resM a.tmps)).run P w = .ok vs w ∧ ResV w RO Ls ts vs
  | [], ts, hr => by simp only [resTs, Option.some.injEq] at hr; subst hr; exact ⟨[], rfl, rfl⟩
  | x :: l, ts, hr => by
    simp only [resTs, Option.bind_eq_some_iff, Option.map_eq_some_iff] at hr
    obtain ⟨t, ht, ts', hts, rfl⟩ := hr
    obtain ⟨v, L, h1, h2, h3⟩ := resOf_ok hE hti h ht
    obtain ⟨vs, h4, h5⟩ := resTs_ok hE hti h l ts' hts
    refine ⟨v :: vs, ?_, v, vs, L, rfl, h2, h3, h5⟩
    rw [List.mapM_cons, Sem.run_bind, h1, Result.andThen_ok, Sem.run_bind, h4, Result.andThen_ok]
    rfl
def tupVal (vs : Array Value) : Value := if h : vs.size = 1 then vs[0] else .tuple vs
theorem results_ok (hE : E.A = re) (hti : E.ti = tiOf P) (h : Rel w RO Ls s a.tmps) {fn : Func} {ts : List T} (hr : resTs E s fn.results.toList = some ts) :
    ∃ vs, (results fn a.tmps).run P w = .ok (tupVal vs.toArray) w ∧ ResV w RO Ls ts vs := by
  obtain ⟨vs, h1, h2⟩ := resTs_ok hE hti h _ ts hr
  refine ⟨vs, ?_, h2⟩
  have e : results fn a.tmps = (do let vs ← fn.results.mapM (resM a.tmps); pure (tupVal vs)) := by
    unfold results tupVal
    congr 1
  rw [e, Array.mapM_eq_mapM_toList, Sem.run_bind]
  have h3 : (List.toArray <$> fn.results.toList.mapM (resM a.tmps)).run P w = .ok vs.toArray w := by
    rw [map_eq_pure_bind, Sem.run_bind, h1]; rfl
  rw [h3]; rfl
theorem readG_ok (hro : ∀ g, RO g → RO' g) {Ls' : List Ly} : ∀ (ts : List T) (vs : List Value) (j : Nat) (rs : List T), ResV w RO Ls ts vs → (∀ i, i < ts.length → TV w RO' Ls' (slot s (j + i)) ((List.zipWith gV ts vs).getD i undef) (Ls'.getD (j + i) .no)) →
    readG s j ts = some rs → ∃ Lr : List Ly, Parts w RO' rs vs Lr ∧ ∀ i, (Lr.getD i .no).bs = (Ls'.getD (j + i) .no).bs ∨ (Lr.getD i .no).bs = []
  | [], vs, j, rs, h, _, hr => by
    simp only [readG, Option.some.injEq] at hr; subst hr
    rw [show vs = [] from h]
    exact ⟨[], ⟨rfl, rfl⟩, fun i => .inr rfl⟩
  | t :: l, vs, j, rs, h, hg, hr => by
    obtain ⟨v, vs', L, hv, h1, h2, h3⟩ := h
    subst hv
    simp only [readG, Option.bind_eq_some_iff, Option.map_eq_some_iff] at hr
    obtain ⟨x, hx, xs, hxs, rfl⟩ := hr
    have hg0 := hg 0 (by simp)
    obtain ⟨L', h4, h5⟩ := resAt_ok (Ls' := Ls') h1 h2 hro (by simpa using hg0) hx
    obtain ⟨Lr, h6, h7⟩ := readG_ok hro l vs' (j + 1) xs h3 (fun i hi => by
      have := hg (i + 1) (by simpa using hi)
      rw [show j + (i + 1) = j + 1 + i by omega] at this
      simpa using this) hxs
    refine ⟨L' :: Lr, ⟨v, vs', L', Lr, rfl, rfl, h4, h6⟩, fun i => ?_⟩
    cases i with
    | zero => exact h5
    | succ i =>
      have := h7 i
      rw [show j + 1 + i = j + (i + 1) by omega] at this
      exact this
theorem inTup_ok {t : T} {v : Value} {L : Ly} (h : TV w RO Ls t v L) : ∃ L', TC w RO Ls (inTup t) [v] L' ∧ (L'.bs = L.bs ∨ L'.bs = []) := by
  cases t with
  | a l =>
    obtain ⟨vs, cs, hv, hL, h⟩ := h
    exact ⟨L, ⟨vs, cs, by rw [hv]; rfl, hL, h⟩, .inl rfl⟩
  | r x =>
    cases x with
    | a l =>
      obtain ⟨⟨vs, hv, h1⟩, _⟩ := h
      have : ∀ (l : List R) (vs : List Value), RCL w RO l vs → TCL w RO Ls (l.map T.r) vs (List.replicate l.length .no) := by
        intro l
        induction l with
        | nil => intro vs h; exact ⟨h, rfl⟩
        | cons x l ih =>
          intro vs h
          obtain ⟨v, vs', hv, h1, h2⟩ := h
          exact ⟨v, vs', .no, _, hv, rfl, ⟨h1, .inl rfl⟩, ih vs' h2⟩
      have hb : ∀ n, Ly.bsL (List.replicate n Ly.no) = [] := by
        intro n; induction n with
        | zero => rfl
        | succ n ih => simp [List.replicate_succ, Ly.bsL, Ly.bs, ih]
      exact ⟨.ag _, ⟨vs, _, by rw [hv]; rfl, rfl, this l vs.toList h1⟩, .inr (by simp [Ly.bs, hb])⟩
    | _ => exact ⟨L, h, .inl rfl⟩
  | _ => exact ⟨L, h, .inl rfl⟩
theorem inTups_ok : ∀ {rs : List T} {vs : List Value} {Lr : List Ly}, Parts w RO rs vs Lr → ∃ cs, TCL w RO [] (rs.map inTup) vs cs ∧ ∀ i, (cs.getD i .no).bs = (Lr.getD i .no).bs ∨ (cs.getD i .no).bs = []
  | [], vs, Lr, h => ⟨[], ⟨h.1, rfl⟩, fun i => .inr rfl⟩
  | t :: l, vs, Lr, h => by
    obtain ⟨v, vs', L, cs', hv, hc, h1, h2⟩ := h
    subst hv hc
    obtain ⟨L', h3, h4⟩ := inTup_ok h1
    obtain ⟨cs, h5, h6⟩ := inTups_ok h2
    refine ⟨L' :: cs, ⟨v, vs', L', cs, rfl, rfl, h3, h5⟩, fun i => ?_⟩
    cases i with
    | zero => exact h4
    | succ i => exact h6 i
theorem tup_ok {rs : List T} {vs : List Value} {Lr : List Ly} (h : Parts w RO rs vs Lr) (hnd : (Ly.bsL Lr).Nodup) :
    ∃ L, TV w RO [] (tup rs) (tupVal vs.toArray) L ∧ L.bs.Nodup ∧ ∀ g ∈ L.bs, g ∈ Ly.bsL Lr := by
  have many : (rs.length ≠ 1) → tup rs = .tp true (rs.map inTup) → ∃ L, TV w RO [] (tup rs) (tupVal vs.toArray) L ∧ L.bs.Nodup ∧ ∀ g ∈ L.bs, g ∈ Ly.bsL Lr := by
    intro hne ht
    obtain ⟨cs, h1, h2⟩ := inTups_ok h
    have hv : tupVal vs.toArray = .tuple vs.toArray := by
      unfold tupVal
      rw [dif_neg (by simp [h.len.1]; exact hne)]
    rw [ht, hv]
    refine ⟨.ag cs, ⟨vs.toArray, cs, rfl, rfl, by simpa using h1⟩, by simpa [Ly.bs] using nodup_sub hnd h2, fun g hg => ?_⟩
    obtain ⟨r, hr⟩ := mem_getD (show g ∈ Ly.bsL cs by simpa [Ly.bs] using hg)
    rcases h2 r with h3 | h3
    · rw [h3] at hr; exact getD_mem hr
    · rw [h3] at hr; simp at hr
  match rs, h, many with
  | [], h, many => exact many (by simp) rfl
  | [t], h, many =>
    obtain ⟨v, vs', L, cs', hv, hc, h1, h2⟩ := h
    obtain ⟨rfl, rfl⟩ := h2
    subst hv hc
    simp only [Ly.bsL, List.append_nil] at hnd
    exact ⟨L, h1, hnd, fun g hg => by simpa [Ly.bsL] using hg⟩
  | t :: t2 :: l, h, many => exact many (by simp) rfl
def bLs (Ls : List Ly) (j : Nat) : List T → List Ly
  | [] => []
  | t :: l => match t with
    | .bx _ => Ls.getD j .no :: bLs Ls (j + 1) l
    | .a _ => Ls.getD j .no :: bLs Ls (j + 1) l
    | _ => .no :: bLs Ls (j + 1) l
theorem bLs_sub (Ls : List Ly) : ∀ (l : List T) (j i : Nat), ((bLs Ls j l).getD i .no).bs = (Ls.getD (j + i) .no).bs ∧ i < l.length ∨ ((bLs Ls j l).getD i .no).bs = []
  | [], j, i => .inr rfl
  | t :: l, j, i => by
    have hrec : ∀ i, ((bLs Ls (j + 1) l).getD i .no).bs = (Ls.getD (j + (i + 1)) .no).bs ∧ i + 1 < (t :: l).length ∨ ((bLs Ls (j + 1) l).getD i .no).bs = [] := fun i => by
      have := bLs_sub Ls l (j + 1) i
      rw [show j + 1 + i = j + (i + 1) by omega] at this
      simpa using this
    cases t with
    | bx c => cases i with
      | zero => exact .inl ⟨rfl, by simp⟩
      | succ i => exact hrec i
    | a c => cases i with
      | zero => exact .inl ⟨rfl, by simp⟩
      | succ i => exact hrec i
    | _ => cases i with
      | zero => exact .inr rfl
      | succ i => exact hrec i
theorem readB_ok {Ls' : List Ly} (h : Rel w RO Ls' s tm) : ∀ (args : List T) (vs : List Value) (j : Nat) (bs : List (List T)), vs.length = args.length → (∀ i, (∃ c, args[i]? = some (.bx c) ∨ args[i]? = some (.a c)) → tm.getD (j + i) undef = vs.getD i undef) →
    readB s j args = some bs → Parts w RO (backArgs args bs) vs (bLs Ls' j args)
  | [], vs, j, bs, hl, _, hr => ⟨List.eq_nil_of_length_eq_zero hl, rfl⟩
  | t :: l, vs, j, bs, hl, hv, hr => by
    cases vs with
    | nil => simp at hl
    | cons v vs =>
      have hv' : ∀ i, (∃ c, l[i]? = some (.bx c) ∨ l[i]? = some (.a c)) → tm.getD (j + 1 + i) undef = vs.getD i undef := fun i hi => by
        have := hv (i + 1) (by simpa using hi)
        rw [show j + 1 + i = j + (i + 1) by omega]
        simpa using this
      have hl' : vs.length = l.length := by simpa using hl
      cases t with
      | bx c =>
        simp only [readB] at hr
        split at hr
        · rename_i cs hs
          split at hr
          · rename_i hsh
            simp only [Option.map_eq_some_iff] at hr
            obtain ⟨bs', hbs, rfl⟩ := hr
            have hT := h.slot j
            rw [hs] at hT
            have hvv := hv 0 ⟨c, .inl rfl⟩
            rw [Nat.add_zero] at hvv
            rw [hvv] at hT
            exact ⟨v, vs, _, _, rfl, rfl, TV_shut (by simpa [shut] using hsh) hT, readB_ok h l vs (j + 1) bs' hl' hv' hbs⟩
          · cases hr
        · cases hr
      | a c =>
        simp only [readB] at hr
        split at hr
        · rename_i cs hs
          split at hr
          · rename_i hsh
            simp only [Option.map_eq_some_iff] at hr
            obtain ⟨bs', hbs, rfl⟩ := hr
            have hT := h.slot j
            rw [hs] at hT
            have hvv := hv 0 ⟨c, .inr rfl⟩
            rw [Nat.add_zero] at hvv
            rw [hvv] at hT
            exact ⟨v, vs, _, _, rfl, rfl, TV_shut (by simpa [shut] using hsh) hT, readB_ok h l vs (j + 1) bs' hl' hv' hbs⟩
          · cases hr
        · cases hr
      | _ => exact ⟨v, vs, _, _, rfl, rfl, rfl, readB_ok h l vs (j + 1) bs hl' hv' hr⟩
theorem boxIx_mem : ∀ (l : List T) (j i : Nat), (∃ c, l[i]? = some (.bx c) ∨ l[i]? = some (.a c)) → j + i ∈ boxIx j l
  | [], j, i, h => by obtain ⟨c, h⟩ := h; simp at h
  | t :: l, j, i, h => by
    cases i with
    | zero =>
      obtain ⟨c, h⟩ := h
      simp only [List.getElem?_cons_zero, Option.some.injEq] at h
      rcases h with h | h <;> subst h <;> simp [boxIx]
    | succ i =>
      have := boxIx_mem l (j + 1) i (by simpa using h)
      rw [show j + 1 + i = j + (i + 1) by omega] at this
      cases t <;> simp [boxIx, this]
theorem body_ok (hE : E.A = re) (hti : E.ti = tiOf P) (hcall : CallOK P E.call) (hlp : LpOK P E.lp) (hmix : P.follows .mixedOrders = true) {fn : Func} {c : Code} (hc : fn.body = some c) {args : List T} {res : T × List (List T)} (hb : bodyOf E fn args = some res)
    {vs : Array Value} {Lc : List Ly} (h : Clo w RO args vs Lc) :
    c.wp P (bodyPost P fn fun e w' => ∃ v RO' Lc' L, e = .returned v ∧ CallPost w RO Lc args vs res w' RO' Lc' L v) { tmps := vs ++ Array.replicate (fn.ntmps - vs.size) undef, defers := [] } w := by
  unfold bodyOf at hb
  simp only [hc] at hb
  split at hb
  · cases hb
  · rename_i hchk
    simp only [Bool.and_eq_true, decide_eq_true_eq] at hchk
    simp only [Option.bind_eq_some_iff] at hb
    obtain ⟨r, hev, hb⟩ := hb
    have hkp : kp (boxIx 0 args) c := by
      have := hchk.2
      unfold keepsB at this
      split at this
      · rename_i hj; exact .inl hj
      · exact .inr this
    have h0 : Rel w RO (Lc ++ List.replicate (fn.ntmps - args.length) .no) (args ++ List.replicate (fn.ntmps - args.length) .u) (vs ++ (List.replicate (fn.ntmps - args.length) undef).toArray) := by
      refine rel_push h.rel (by simp) (by simp) ?_ fun j => ?_
      · generalize fn.ntmps - args.length = n
        induction n with
        | zero => rfl
        | succ n ih => simp [List.replicate_succ, Ly.bsL, Ly.bs, ih]
      · have e1 : slot (List.replicate (fn.ntmps - args.length) T.u) j = .u := by
          simp only [slot, List.getD_eq_getElem?_getD, List.getElem?_replicate]
          split <;> rfl
        have e2 : (List.replicate (fn.ntmps - args.length) Ly.no).getD j .no = .no := by
          simp only [List.getD_eq_getElem?_getD, List.getElem?_replicate]
          split <;> rfl
        rw [e1, e2]; exact rfl
    have htm : vs ++ Array.replicate (fn.ntmps - vs.size) undef = vs ++ (List.replicate (fn.ntmps - args.length) undef).toArray := by
      rw [h.len]; congr 1
    rw [htm]
    generalize ha0 : ({ tmps := vs ++ (List.replicate (fn.ntmps - args.length) undef).toArray, defers := [] } : Act) = a0
    have hbs0 : ∀ g, g ∈ Ly.bsL (Lc ++ List.replicate (fn.ntmps - args.length) .no) ↔ g ∈ Ly.bsL Lc := fun g => by
      rw [bsL_append]
      have : Ly.bsL (List.replicate (fn.ntmps - args.length) Ly.no) = [] := by
        generalize fn.ntmps - args.length = n
        induction n with
        | zero => rfl
        | succ n ih => simp [List.replicate_succ, Ly.bsL, Ly.bs, ih]
      rw [this, List.append_nil]
    refine ev_ok hE hti hcall hlp hmix c _ r hev (boxIx 0 args) w RO _ a0 _ hkp (by rw [← ha0]; exact h0) fun a' w' RO1 Ls1 hR hS hX => ?_
    have fin : ∀ {out : Option (T × List (List T))}, out = some res → (out = (resTs E r.2 fn.results.toList).bind fun ts =>
        (outB E 0 args (r.2 ++ ts.map gOf)).bind fun s2 => (outGs E ts.length r.2.length s2).bind fun s3 =>
          (readG s3 r.2.length ts).bind fun rs => (readB s3 0 args).map fun bs => (tup rs, bs)) →
        a'.defers = [] ∧ ∃ v, (results fn a'.tmps).run P w' = .ok v w' ∧ ∃ v' RO' Lc' L, Ending.returned v = .returned v' ∧ CallPost w RO Lc args vs res w' RO' Lc' L v' := by
      intro out ho ho2
      rw [ho] at ho2
      have ho2 := ho2.symm
      simp only [Option.bind_eq_some_iff, Option.map_eq_some_iff] at ho2
      obtain ⟨ts, hts, s2, hs2, s3, hs3, rs, hrs, bs, hbs, rfl⟩ := ho2
      refine ⟨by rw [hS.defers, ← ha0], ?_⟩
      obtain ⟨us, hrun, hres⟩ := results_ok hE hti hR hts
      refine ⟨_, hrun, ?_⟩
      obtain ⟨Lts, g1, g2, g3⟩ := hres.ghost
      have hlz : (List.zipWith gV ts us).length = ts.length := by simp [hres.len]
      have hRp := rel_push hR (ts := ts.map gOf) (by rw [hlz]; simp) (by simpa using g1) g2 g3
      obtain ⟨RO2, Ls2, h2, hX2⟩ := outB_ok hE args 0 _ s2 RO1 _ hRp hs2
      obtain ⟨RO3, Ls3, h3, hX3⟩ := outGs_ok hE ts.length r.2.length s2 s3 RO2 Ls2 h2 hs3
      have hX23 := hX2.trans hX3
      have hn0 : a'.tmps.size = r.2.length := hR.len
      have hval : ∀ j, (a'.tmps ++ (List.zipWith gV ts us).toArray).getD j undef = if j < r.2.length then a'.tmps.getD j undef else (List.zipWith gV ts us).getD (j - r.2.length) undef := fun j => by
        rw [← hn0]
        simp only [Array.getD_eq_getD_getElem?, List.getD_eq_getElem?_getD]
        rcases Nat.lt_or_ge j a'.tmps.size with hj | hj
        · rw [if_pos hj, Array.getElem?_append_left hj]
        · rw [if_neg (by omega), Array.getElem?_append_right hj]; simp
      have hlen0 : args.length ≤ r.2.length := by
        rw [← hn0]
        rw [hS.size, ← ha0]
        simp [h.len]
      obtain ⟨Lr, k1, k2⟩ := readG_ok (RO := RO1) (s := s3) hX23.ro ts us r.2.length rs hres (fun i hi => by
        have := h3.slot (r.2.length + i)
        rw [hval, if_neg (by omega), Nat.add_sub_cancel_left] at this
        exact this) hrs
      have hnth : ∀ j, j ∈ boxIx 0 args → a'.tmps.getD j undef = a0.tmps.getD j undef := fun j hj => hS.tmps j hj
      have ha0v : ∀ j, j < args.length → a0.tmps.getD j undef = vs.getD j undef := fun j hj => by
        rw [← ha0]
        simp only [Array.getD_eq_getD_getElem?]
        rw [Array.getElem?_append_left (by rw [h.len]; exact hj)]
      have hP := readB_ok h3 args vs.toList 0 bs (by simpa using h.len) (fun i hi => by
        have hil : i < args.length := by obtain ⟨c, hc | hc⟩ := hi <;> exact (List.getElem?_eq_some_iff.1 hc).1
        rw [Nat.zero_add, hval, if_pos (by omega)]
        have hm := boxIx_mem args 0 i hi
        rw [Nat.zero_add] at hm
        rw [hnth i hm, ha0v i hil]
        simp [Array.getD_eq_getD_getElem?, List.getD_eq_getElem?_getD]) hbs
      have hndr : (Ly.bsL Lr).Nodup := by
        have hd : (Ly.bsL (Ls3.drop r.2.length)).Nodup := by
          have h5 := h3.nodup
          rw [← List.take_append_drop r.2.length Ls3, bsL_append, List.nodup_append] at h5
          exact h5.2.1
        refine nodup_sub hd fun i => ?_
        have e : (Ls3.drop r.2.length).getD i .no = Ls3.getD (r.2.length + i) .no := by
          simp [List.getD_eq_getElem?_getD, List.getElem?_drop]
        rw [e]; exact k2 i
      obtain ⟨L, t1, t2, t3⟩ := tup_ok k1 hndr
      have hLr : ∀ g ∈ L.bs, ∃ i, g ∈ (Ls3.getD (r.2.length + i) .no).bs := fun g hg => by
        obtain ⟨i, hi⟩ := mem_getD (t3 g hg)
        rcases k2 i with h5 | h5
        · rw [h5] at hi; exact ⟨i, hi⟩
        · rw [h5] at hi; simp at hi
      have hbl : ∀ g ∈ Ly.bsL (bLs Ls3 0 args), ∃ i, i < args.length ∧ g ∈ (Ls3.getD i .no).bs := fun g hg => by
        obtain ⟨i, hi⟩ := mem_getD hg
        rcases bLs_sub Ls3 args 0 i with ⟨h5, h6⟩ | h5
        · rw [h5, Nat.zero_add] at hi; exact ⟨i, h6, hi⟩
        · rw [h5] at hi; simp at hi
      have hbs1 : ∀ g, g ∈ Ly.bsL (Ls1 ++ Lts) ↔ g ∈ Ly.bsL Ls1 := fun g => by rw [bsL_append, g2, List.append_nil]
      have hold : ∀ g ∈ Ly.bsL Ls3, g ∈ Ly.bsL Lc ∨ w.heap.size ≤ g := fun g hg => by
        rcases hX23.own g hg with h5 | h5
        · rcases hX.own g ((hbs1 g).1 h5) with h6 | h6
          · exact .inl ((hbs0 g).1 h6)
          · exact .inr h6
        · exact .inr (Nat.le_trans hX.size h5)
      refine ⟨_, RO3, bLs Ls3 0 args, L, rfl, ⟨hX.os, hX.tape, hX.output, hX.size, fun k hk hn => hX.blk k hk fun hm => hn ((hbs0 k).1 hm), fun g hg => hX23.ro g (hX.ro g hg), fun g hg => ?_,
        hP.clo (nodup_sub h3.nodup fun i => ?_) (fun g hg => ?_) h3.ro, fun g hg => ?_, t1, t2, fun g hg => ?_⟩⟩
      · rcases hX23.ro' g hg with h5 | h5 | h5
        · rcases hX.ro' g h5 with h6 | h6 | h6
          · exact .inl h6
          · exact .inr (.inl ((hbs0 g).1 h6))
          · exact .inr (.inr h6)
        · rcases hX.own g ((hbs1 g).1 h5) with h6 | h6
          · exact .inr (.inl ((hbs0 g).1 h6))
          · exact .inr (.inr h6)
        · exact .inr (.inr (Nat.le_trans hX.size h5))
      · rcases bLs_sub Ls3 args 0 i with ⟨h5, _⟩ | h5
        · rw [Nat.zero_add] at h5; exact .inl h5
        · exact .inr h5
      · obtain ⟨i, _, hi⟩ := hbl g hg
        exact h3.own g (getD_mem hi)
      · obtain ⟨i, _, hi⟩ := hbl g hg
        exact hold g (getD_mem hi)
      · obtain ⟨i, hi⟩ := hLr g hg
        refine ⟨fun hm => ?_, (h3.own g (getD_mem hi)).2, (h3.own g (getD_mem hi)).1, hold g (getD_mem hi)⟩
        obtain ⟨i2, hi2, hm⟩ := hbl g hm
        have := getD_disj h3.nodup hi hm
        omega
    obtain ⟨x1, s1⟩ := r
    cases x1 with
    | nm => exact fin hb rfl
    | rt => exact fin hb rfl
    | ex id => cases hb
theorem runF_ok (hmix : P.follows .mixedOrders = true) (hng : ∀ (f : FuncId) (fn : Func), P.funcs[f]? = some fn → fn.name ≠ "runtime.NumGoroutine") (H : Hints) : ∀ n, CallOK P (runF P re H n)
  | 0 => fun f args res h => by simp [runF] at h
  | n + 1 => fun f args res h => by
    have ih := runF_ok hmix hng H n
    simp only [runF, Option.bind_eq_some_iff] at h
    obtain ⟨fn, hfn, h⟩ := h
    have hbody : ∃ c, fn.body = some c := by
      cases hb : fn.body with
      | none => unfold bodyOf at h; simp only [hb] at h; cases h
      | some c => exact ⟨c, rfl⟩
    obtain ⟨c, hc⟩ := hbody
    refine ⟨⟨fn, hfn, by rw [hc]; rfl, hng f fn hfn⟩, fun w RO Lc vs hclo _ => ?_⟩
    exact calls_of_wp hfn hc (body_ok (E := envOf P re (runF P re H n) (lpF P re (runF P re H n) (H f) n) (H f).pt) rfl rfl ih (lpF_ok rfl ih hmix (H f) n) hmix hc h hclo)
end
end Go.Os
