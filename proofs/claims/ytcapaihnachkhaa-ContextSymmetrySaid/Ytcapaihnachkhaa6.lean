/-
  ContextSymmetry: the law answers true for every input.
-/
import Derived.Test.YtcapaihnachkhaaB
set_option linter.unusedVariables false
set_option maxRecDepth 100000
namespace Go.Proofs.Ytcapaihnachkhaa
open Go.Os
open Go.ChangeShapes Go.WideShapes Go.ChangeAt Go.RowKit

theorem F13_sym (N : Nat) (h v d : Int) : ∃ s t : Int, ∀ k : Int → Option Unit, F13_2 re rk N 1 h v d k = k s ∧ F13_2 re rk N 2 v h d k = k s ∧ F13_2 re rk N 3 h v d k = k t ∧ F13_2 re rk N 3 v h d k = k t := by
  unfold F13_2 F41_5 F40_4 F39_3
  rcases lim2 h with e1 | e1 | e1 <;> rcases lim2 v with e2 | e2 | e2 <;> rcases lim4 d with e3 | e3 | e3 | e3 | e3 <;> simp only [e1, e2, e3] <;> exact ⟨_, _, fun k => ⟨rfl, rfl, rfl, rfl⟩⟩

theorem neg_eq {x : Int} (h : -1152921504606846976 ≤ x) (h' : x ≤ 1152921504606846976) : re.ar .sub .i64 0 x = -x := by
  show IntKind.wrap .i64 (0 - x) = -x
  rw [wrap64 (by omega) (by omega)]; omega

theorem lim_neg (x : Int) : re.mn (re.mx (-x) (-1)) 1 = -re.mn (re.mx x (-1)) 1 := by
  simp only [re]
  repeat' split
  all_goals omega

theorem F16_sym (N : Nat) {h v : Int} (h1 : -1152921504606846976 ≤ h) (h2 : h ≤ 1152921504606846976) (h3 : -1152921504606846976 ≤ v) (h4 : v ≤ 1152921504606846976) :
    ∃ c f g : Int, (f = 0 ∨ f = 1) ∧ (g = 0 ∨ g = 1) ∧ (f = g → h = 0 ∧ v = 0) ∧ ∀ k : Int → Int → Option Unit, F16_6 re rk N h v k = k c f ∧ F16_6 re rk N (re.ar .sub .i64 0 h) (re.ar .sub .i64 0 v) k = k c g := by
  rw [neg_eq h1 h2, neg_eq h3 h4]
  unfold F16_6 F39_3
  simp only [lim_neg]
  rcases limS h with ⟨e1, d1⟩ | ⟨e1, d1⟩ | ⟨e1, d1⟩ <;> rcases limS v with ⟨e2, d2⟩ | ⟨e2, d2⟩ | ⟨e2, d2⟩ <;> simp only [e1, e2]
  all_goals first
    | exact ⟨_, 0, 0, .inl rfl, .inl rfl, (fun e => by first | omega | (cases e)), fun k => ⟨rfl, rfl⟩⟩
    | exact ⟨_, 0, 1, .inl rfl, .inr rfl, (fun e => by first | omega | (cases e)), fun k => ⟨rfl, rfl⟩⟩
    | exact ⟨_, 1, 0, .inr rfl, .inl rfl, (fun e => by first | omega | (cases e)), fun k => ⟨rfl, rfl⟩⟩

/-- The contribution. -/
def cont (a b : Int) : Int := if 0 ≤ a ∧ 0 ≤ b then re.mx (re.mn (re.mx a 0) 1) (re.mn (re.mx b 0) 1) else if a < 0 ∧ b < 0 then -1 else re.mn (re.mx (IntKind.wrap .i64 (a + b)) (-1)) 1

theorem F20_c (N : Nat) (a b : Int) (k : Int → Option Unit) : F20_7 re rk N a b k = k (cont a b) := by
  unfold F20_7 F39_3 cont
  have h1 : re.cm .geq a 0 = decide (0 ≤ a) := rfl
  have h2 : re.cm .geq b 0 = decide (0 ≤ b) := rfl
  have h3 : re.cm .lss a 0 = decide (a < 0) := rfl
  have h4 : re.cm .lss b 0 = decide (b < 0) := rfl
  have h5 : re.ar .add .i64 a b = IntKind.wrap .i64 (a + b) := rfl
  rw [h1, h2, h3, h4, h5]
  by_cases ha : 0 ≤ a <;> by_cases hb : 0 ≤ b
  · simp [ha, hb]
  · have hb' : b < 0 := by omega
    have : ¬ a < 0 := by omega
    simp [ha, hb, hb', this]
  · have ha' : a < 0 := by omega
    have : ¬ b < 0 := by omega
    simp [ha, hb, ha', this]
  · have ha' : a < 0 := by omega
    have hb' : b < 0 := by omega
    simp [ha, hb, ha', hb']

/-- The sign of the sum of the signs. -/
theorem cont_v {a b : Int} (h1 : -1152921504606846976 ≤ a) (h2 : a ≤ 1152921504606846976) (h3 : -1152921504606846976 ≤ b) (h4 : b ≤ 1152921504606846976) :
    cont a b = if a + b < 0 then -1 else if 0 < a + b then 1 else 0 := by
  unfold cont
  rw [wrap64 (by omega) (by omega)]
  simp only [re]
  repeat' split
  all_goals omega

theorem t10 (N : Nat) (a b c : Int) {h v : Int} (h1 : -1152921504606846976 ≤ h) (h2 : h ≤ 1152921504606846976) (h3 : -1152921504606846976 ≤ v) (h4 : v ≤ 1152921504606846976) (k : Int → Int → Int → Bool → Option Unit) :
    J6_10_0 re rk N a b c h v k = k a b c true := by
  unfold J6_10_0
  simp only [F20_c, neg_eq h1 h2, neg_eq h3 h4]
  have e1 : cont v h = cont h v := by
    rw [cont_v h1 h2 h3 h4, cont_v h3 h4 h1 h2, Int.add_comm]
  have e2 : cont (-h) (-v) = -cont h v := by
    rw [cont_v h1 h2 h3 h4, cont_v (by omega) (by omega) (by omega) (by omega)]
    repeat' split
    all_goals omega
  have e3 : re.ar .sub .i64 0 (cont h v) = -cont h v := by
    refine neg_eq ?_ ?_ <;> rw [cont_v h1 h2 h3 h4] <;> repeat' split
    all_goals omega
  have e4 : ∀ x : Int, re.cm .eql x x = true := fun x => by simp [re, cmI]
  rw [e1, e2, e3, e4, e4]

theorem t8 (N : Nat) (a b d : Int) {h v c f g : Int} (h1 : -1152921504606846976 ≤ h) (h2 : h ≤ 1152921504606846976) (h3 : -1152921504606846976 ≤ v) (h4 : v ≤ 1152921504606846976)
    (hf : f = 0 ∨ f = 1) (hg : g = 0 ∨ g = 1) (hfg : f = g → h = 0 ∧ v = 0) (k : Int → Int → Int → Bool → Option Unit) :
    J6_8_0 re rk N a b d h v c f c g k = k a b d true := by
  have e4 : re.cm .neq c c = false := by simp [re, cmI]
  unfold J6_8_0
  rw [e4]
  simp only [t10 N _ _ _ h1 h2 h3 h4]
  rcases hf with rfl | rfl <;> rcases hg with rfl | rfl
  · obtain ⟨rfl, rfl⟩ := hfg rfl
    exact t10 N _ _ _ h1 h2 h3 h4 _
  · exact t10 N _ _ _ h1 h2 h3 h4 _
  · exact t10 N _ _ _ h1 h2 h3 h4 _
  · obtain ⟨rfl, rfl⟩ := hfg rfl
    exact t10 N _ _ _ h1 h2 h3 h4 _

theorem t6 (N : Nat) (a b d : Int) {h v : Int} (h1 : -1152921504606846976 ≤ h) (h2 : h ≤ 1152921504606846976) (h3 : -1152921504606846976 ≤ v) (h4 : v ≤ 1152921504606846976) (k : Int → Int → Int → Bool → Option Unit) :
    J6_6_0 re rk N a b d h v k = k a b d true := by
  obtain ⟨c, f, g, hf, hg, hfg, hk⟩ := F16_sym N h1 h2 h3 h4
  unfold J6_6_0 J6_7_0
  rw [(hk _).1, (hk _).2]
  exact t8 N a b d h1 h2 h3 h4 hf hg hfg _

theorem t4 (N : Nat) (a b c d : Int) {h v : Int} (h1 : -1152921504606846976 ≤ h) (h2 : h ≤ 1152921504606846976) (h3 : -1152921504606846976 ≤ v) (h4 : v ≤ 1152921504606846976) (k : Int → Int → Int → Bool → Option Unit) :
    J6_4_0 re rk N a b c h v d k = k a b c true := by
  obtain ⟨s, t, hk⟩ := F13_sym N h v d
  have e4 : ∀ x : Int, re.cm .neq x x = false := fun x => by simp [re, cmI]
  unfold J6_4_0
  rw [(hk _).1, (hk _).2.1, e4]
  simp only
  rw [(hk _).2.2.1, (hk _).2.2.2, e4]
  exact t6 N a b c h1 h2 h3 h4 _

theorem p6 (N : Nat) (h v d : Int) : F6_0 re rk N h v d (fun y => yes (T.r (R.b y)) []) = some () := by
  unfold F6_0 J6_2_0
  have e1 : ∀ x y : Int, re.cm .lss x y = decide (x < y) := fun _ _ => rfl
  have e2 : ∀ x y : Int, re.cm .gtr x y = decide (y < x) := fun _ _ => rfl
  rw [e1, e2, e1, e2]
  by_cases a1 : h < -1152921504606846976
  · rw [decide_eq_true a1]; rfl
  · rw [decide_eq_false a1]
    by_cases a2 : 1152921504606846976 < h
    · rw [decide_eq_true a2]; rfl
    · rw [decide_eq_false a2]
      by_cases a3 : v < -1152921504606846976
      · rw [decide_eq_true a3]; rfl
      · rw [decide_eq_false a3]
        by_cases a4 : 1152921504606846976 < v
        · rw [decide_eq_true a4]; rfl
        · rw [decide_eq_false a4]
          exact t4 N h v d d (by omega) (by omega) (by omega) (by omega) _

theorem r6 (xs : List R) (h : shOKL [.ag [.i .i64, .i .i64, .i .i64]] xs) : ∃ n, runF Try.prog re Hn n 6 (xs.map T.r) = some (.r (.b true), []) := by
  obtain ⟨_, _, rfl, ⟨l, rfl, hl⟩, rfl⟩ := h
  obtain ⟨_, _, rfl, ⟨a, rfl, _, _⟩, _, _, rfl, ⟨b, rfl, _, _⟩, _, _, rfl, ⟨c, rfl, _, _⟩, rfl⟩ := hl
  exact law_of_snd (o6_0 0) (g := fun kk => F6_0 re rk 0 a b c (fun y => kk (T.r (R.b y)) [])) rfl (p6 0 a b c)

theorem contextSymmetry_lifted (os : Os) (started : os.Started) (H : Type) (enc : TypeId × Value → H) :
    ReturnsInHanded {} Try.checked os 6 .any (Rows.contextSymmetrySpec.pre6 enc Try.prog Try.f6 Rows.contextSymmetryRow.domain false) (Rows.contextSymmetrySpec.post enc Try.prog Try.f6 false true false false) := by
  refine returnsInHanded_of_change (C := Try.checked) own started (by kernel_rfl) Try.func6
    (ChangeSpec.witness6 (enc := enc) (C := Try.checked) false ⟨#[], #[.agg #[.int .i64 0, .int .i64 0, .int .i64 0]], []⟩ 8 (by kernel_rfl) (by kernel_rfl) (by kernel_rfl) (by kernel_rfl)) ?_
  intro W base args ds gs before hval hW hcnd _
  exact law_contract (tb := Try.f6.resultTypes.getD 0 0) (shs := [.ag [.i .i64, .i .i64, .i .i64]]) (m := 9) mixed noRoutine laidOut Hn rfl (fun ds h => by
    match ds, h with
    | [a], _ => rfl) (by kernel_rfl) (by kernel_rfl) (reads_ok (by kernel_rfl)) (by kernel_rfl) r6 hval hW

theorem contextSymmetry_holds : Rows.ContextSymmetrySaid :=
  OpenClaim.holds_of_wide 6 Try.f6 rfl rfl rfl rfl rfl rfl rfl ⟨rfl, rfl, rfl, rfl, rfl⟩ rfl rfl rfl rfl rfl (by kernel_rfl) Try.func6 (by kernel_rfl)
    (of_decide_eq_true (by kernel_rfl)) (by unfold Func.isWrapper; first | (rw [if_pos (by decide +kernel)]; kernel_rfl) | (rw [if_neg (by decide +kernel)]; exact ⟨rfl, rfl⟩))
    (fun os started H enc _ => contextSymmetry_lifted os started H enc)

end Go.Proofs.Ytcapaihnachkhaa
