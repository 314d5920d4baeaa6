/-
  ContextOrder: the law answers true for every input.
-/
import Derived.Test.YtcapaihnachkhaaB
set_option linter.unusedVariables false
set_option maxRecDepth 100000
namespace Go.Proofs.Ytcapaihnachkhaa
open Go.Os
open Go.ChangeShapes Go.WideShapes Go.ChangeAt Go.RowKit

/-- The context of significance of limited counts. -/
def g41 (a b c : Int) : Int := if a = 2 then 8 else if a = 1 then (if 0 < b then 7 else if c = 0 then 5 else 6) else if 0 < b then 2 + b else if 2 < c then 2 else c
def g40 (s d : Int) : Int := if d = 0 then (if 2 < s then 2 else s) else if d = 1 then (if 2 < s then 5 else 3 + s) else if d = 2 then (if s = 0 then 6 else 7) else 8
def sg (b3 b1 : Bool) (h v d : Int) : Int := match b3 with
  | true => g40 (h + v) d
  | false => (match b1 with | true => g41 v h d | false => g41 h v d)

theorem sg_mono (b3 b1 : Bool) {h v d x y z : Int} (a1 : 0 ≤ h) (a2 : h ≤ x) (a3 : x ≤ 2) (b1' : 0 ≤ v) (b2 : v ≤ y) (b3' : y ≤ 2) (c1 : 0 ≤ d) (c2 : d ≤ z) (c3 : z ≤ 4) : sg b3 b1 h v d ≤ sg b3 b1 x y z := by
  unfold sg g40 g41
  cases b3 <;> cases b1 <;> simp only <;> (repeat' split) <;> omega

theorem sg_low (b3 b1 : Bool) {h v d : Int} (a1 : 0 ≤ h) (b1' : 0 ≤ v) (c1 : 0 ≤ d) : 0 ≤ sg b3 b1 h v d := by
  unfold sg g40 g41
  cases b3 <;> cases b1 <;> simp only <;> (repeat' split) <;> omega

theorem sg_high (b3 b1 : Bool) {h v d : Int} (a1 : h ≤ 2) (b1' : v ≤ 2) (c1 : d ≤ 4) : sg b3 b1 h v d ≤ 8 := by
  unfold sg g40 g41
  cases b3 <;> cases b1 <;> simp only <;> (repeat' split) <;> omega

theorem sg_zero (b3 b1 : Bool) {h v d : Int} (a1 : 0 ≤ h) (a2 : h ≤ 2) (b1' : 0 ≤ v) (b2 : v ≤ 2) (c1 : 0 ≤ d) (c2 : d ≤ 4) : sg b3 b1 h v d = 0 ↔ h = 0 ∧ v = 0 ∧ d = 0 := by
  unfold sg g40 g41
  cases b3 <;> cases b1 <;> simp only <;> (repeat' split) <;> omega

def L2 (x : Int) : Int := re.mn (re.mx x 0) 2
def L4 (x : Int) : Int := re.mn (re.mx x 0) 4

theorem L2_v (x : Int) : L2 x = if x ≤ 0 then 0 else if x ≤ 2 then x else 2 := by
  simp only [L2, re]
  repeat' split
  all_goals omega
theorem L4_v (x : Int) : L4 x = if x ≤ 0 then 0 else if x ≤ 4 then x else 4 := by
  simp only [L4, re]
  repeat' split
  all_goals omega

theorem F13_v (N : Nat) (o h v d : Int) (k : Int → Option Unit) : F13_2 re rk N o h v d k = k (sg (re.cm .eql o 3) (re.cm .eql o 1) (L2 h) (L2 v) (L4 d)) := by
  unfold F13_2 F41_5 F40_4 F39_3 L2 L4
  generalize re.cm .eql o 3 = b3
  generalize re.cm .eql o 1 = b1
  rcases lim2 h with e1 | e1 | e1 <;> rcases lim2 v with e2 | e2 | e2 <;> rcases lim4 d with e3 | e3 | e3 | e3 | e3 <;> rw [e1, e2, e3] <;> cases b3 <;> cases b1 <;> kernel_rfl

theorem F16_c (N : Nat) (a b : Int) : ∃ c f : Int, 9 ≤ c ∧ c ≤ 13 ∧ ∀ k : Int → Int → Option Unit, F16_6 re rk N a b k = k c f := by
  unfold F16_6 F39_3
  rcases limS a with ⟨e1, _⟩ | ⟨e1, _⟩ | ⟨e1, _⟩ <;> rcases limS b with ⟨e2, _⟩ | ⟨e2, _⟩ | ⟨e2, _⟩ <;> simp only [e1, e2]
  all_goals first
    | exact ⟨9, _, by omega, by omega, fun k => rfl⟩
    | exact ⟨10, _, by omega, by omega, fun k => rfl⟩
    | exact ⟨11, _, by omega, by omega, fun k => rfl⟩
    | exact ⟨12, _, by omega, by omega, fun k => rfl⟩
    | exact ⟨13, _, by omega, by omega, fun k => rfl⟩

theorem F18_c (N : Nat) (x y : Bool) : ∃ c : Int, 14 ≤ c ∧ c ≤ 16 ∧ ∀ k : Int → Option Unit, F18_9 re rk N x y k = k c := by
  unfold F18_9
  cases x <;> cases y
  · exact ⟨16, by omega, by omega, fun k => rfl⟩
  · exact ⟨16, by omega, by omega, fun k => rfl⟩
  · exact ⟨14, by omega, by omega, fun k => rfl⟩
  · exact ⟨15, by omega, by omega, fun k => rfl⟩

theorem q6 (N : Nat) (x540 x541 x542 x543 x544 x545 x546 x547 x548 : Int) (k : Int → Int → Int → Int → Int → Int → Int → Bool → Option Unit) :
    J7_6_0 re rk N x540 x541 x542 x543 x544 x545 x546 x547 x548 k = k x540 x541 x542 x543 x544 x545 x546 true := by
  obtain ⟨c, f, h1, h2, hk⟩ := F16_c N (re.ar .sub .i64 x547 2) (re.ar .sub .i64 x548 2)
  obtain ⟨r, h3, h4, hr⟩ := F18_c N (re.cm .gtr x547 1) (re.cm .gtr x548 1)
  unfold J7_6_0 J7_7_0
  rw [hk, hr]
  unfold J7_8_0
  have e : ∀ x y : Int, re.cm .leq x y = decide (x ≤ y) := fun _ _ => rfl
  rw [e, e, e, e, decide_eq_true h1, decide_eq_true h2, decide_eq_true h3, decide_eq_true h4]

theorem q3 (N : Nat) (x465 x466 x467 x468 x469 x470 x471 h v d x y z : Int) (a1 : 0 ≤ h) (a2 : h ≤ x) (b1 : 0 ≤ v) (b2 : v ≤ y) (c1 : 0 ≤ d) (c2 : d ≤ z) (k : Int → Int → Int → Int → Int → Int → Int → Bool → Option Unit) :
    J7_3_0 re rk N x465 x466 x467 x468 x469 x470 x471 h v d x y z k = k x465 x466 x467 x468 x469 x470 x471 true := by
  have hL : ∀ x, 0 ≤ L2 x ∧ L2 x ≤ 2 := fun x => by rw [L2_v]; repeat' split <;> omega
  have hL4 : ∀ x, 0 ≤ L4 x ∧ L4 x ≤ 4 := fun x => by rw [L4_v]; repeat' split <;> omega
  have m1 : L2 h ≤ L2 x := by rw [L2_v, L2_v]; repeat' split <;> omega
  have m2 : L2 v ≤ L2 y := by rw [L2_v, L2_v]; repeat' split <;> omega
  have m3 : L4 d ≤ L4 z := by rw [L4_v, L4_v]; repeat' split <;> omega
  have z1 : L2 h = 0 ↔ h = 0 := by rw [L2_v]; repeat' split <;> omega
  have z2 : L2 v = 0 ↔ v = 0 := by rw [L2_v]; repeat' split <;> omega
  have z3 : L4 d = 0 ↔ d = 0 := by rw [L4_v]; repeat' split <;> omega
  unfold J7_3_0
  rw [F13_v, F13_v]
  generalize re.cm .eql x465 3 = b3
  generalize re.cm .eql x465 1 = b1'
  have s1 := sg_mono b3 b1' (hL h).1 m1 (hL x).2 (hL v).1 m2 (hL y).2 (hL4 d).1 m3 (hL4 z).2
  have s2 := sg_low b3 b1' (hL h).1 (hL v).1 (hL4 d).1
  have s3 := sg_high b3 b1' (hL x).2 (hL y).2 (hL4 z).2
  have s4 := sg_zero b3 b1' (hL h).1 (hL h).2 (hL v).1 (hL v).2 (hL4 d).1 (hL4 d).2
  rw [z1, z2, z3] at s4
  generalize sg b3 b1' (L2 h) (L2 v) (L4 d) = a at *
  generalize sg b3 b1' (L2 x) (L2 y) (L4 z) = b at *
  unfold J7_4_0
  have e1 : ∀ x y : Int, re.cm .gtr x y = decide (y < x) := fun _ _ => rfl
  have e2 : ∀ x y : Int, re.cm .lss x y = decide (x < y) := fun _ _ => rfl
  have e3 : ∀ x y : Int, re.cm .eql x y = decide (x = y) := fun _ _ => rfl
  simp only [e1, e2, e3]
  rw [decide_eq_false (show ¬ b < a by omega), decide_eq_false (show ¬ a < 0 by omega), decide_eq_false (show ¬ 8 < b by omega)]
  unfold J7_5_0
  simp only [q6]
  by_cases h0 : h = 0
  · rw [decide_eq_true h0]
    by_cases v0 : v = 0
    · rw [decide_eq_true v0]
      by_cases d0 : d = 0
      · rw [decide_eq_true d0, decide_eq_true (s4.2 ⟨h0, v0, d0⟩)]; rfl
      · rw [decide_eq_false d0, decide_eq_false (fun e => d0 (s4.1 e).2.2)]; rfl
    · rw [decide_eq_false v0, decide_eq_false (fun e => v0 (s4.1 e).2.1)]; rfl
  · rw [decide_eq_false h0, decide_eq_false (fun e => h0 (s4.1 e).1)]; rfl

theorem rem_v {x m : Int} (h : 0 ≤ x) (h' : x ≤ 255) : re.ar .rem .i64 (re.cv .i64 x) m = x % m := by
  show (IntKind.wrap .i64 x).tmod m = x % m
  rw [wrap64 (by omega) (by omega), Int.tmod_eq_emod_of_nonneg h]

theorem add_v {x y : Int} (h : 0 ≤ x) (h' : x ≤ 255) (g : 0 ≤ y) (g' : y ≤ 255) : re.ar .add .i64 x y = x + y := by
  show IntKind.wrap .i64 (x + y) = x + y
  rw [wrap64 (by omega) (by omega)]

theorem p7 (N : Nat) (o a b c x y z : Int) (ha : 0 ≤ a ∧ a ≤ 255) (hb : 0 ≤ b ∧ b ≤ 255) (hc : 0 ≤ c ∧ c ≤ 255) (hx : 0 ≤ x ∧ x ≤ 255) (hy : 0 ≤ y ∧ y ≤ 255) (hz : 0 ≤ z ∧ z ≤ 255) :
    F7_8 re rk N o a b c x y z (fun y => yes (T.r (R.b y)) []) = some () := by
  have n5 : re.nz 5 = false := rfl
  have n7 : re.nz 7 = false := rfl
  unfold F7_8 J7_2_0
  rw [n5, n7]
  simp only [rem_v ha.1 ha.2, rem_v hb.1 hb.2, rem_v hc.1 hc.2, rem_v hx.1 hx.2, rem_v hy.1 hy.2, rem_v hz.1 hz.2]
  rw [add_v (by omega) (by omega) (by omega) (by omega), add_v (by omega) (by omega) (by omega) (by omega), add_v (by omega) (by omega) (by omega) (by omega)]
  rw [q3 N _ _ _ _ _ _ _ _ _ _ _ _ _ (by omega) (by omega) (by omega) (by omega) (by omega) (by omega)]
  rfl

theorem r7 (xs : List R) (h : shOKL [.i .i64, .ag [.i .u8, .i .u8, .i .u8], .ag [.i .u8, .i .u8, .i .u8]] xs) : ∃ n, runF Try.prog re Hn n 7 (xs.map T.r) = some (.r (.b true), []) := by
  obtain ⟨_, _, rfl, ⟨o, rfl, _, _⟩, _, _, rfl, ⟨l, rfl, hl⟩, _, _, rfl, ⟨m, rfl, hm⟩, rfl⟩ := h
  obtain ⟨_, _, rfl, ⟨a, rfl, ha, ha'⟩, _, _, rfl, ⟨b, rfl, hb, hb'⟩, _, _, rfl, ⟨c, rfl, hc, hc'⟩, rfl⟩ := hl
  obtain ⟨_, _, rfl, ⟨x, rfl, hx, hx'⟩, _, _, rfl, ⟨y, rfl, hy, hy'⟩, _, _, rfl, ⟨z, rfl, hz, hz'⟩, rfl⟩ := hm
  exact law_of_snd (o7_8 0) (g := fun kk => F7_8 re rk 0 o a b c x y z (fun y => kk (T.r (R.b y)) [])) rfl (p7 0 o a b c x y z ⟨ha, ha'⟩ ⟨hb, hb'⟩ ⟨hc, hc'⟩ ⟨hx, hx'⟩ ⟨hy, hy'⟩ ⟨hz, hz'⟩)

theorem contextOrder_lifted (os : Os) (started : os.Started) (H : Type) (enc : TypeId × Value → H) :
    ReturnsInHanded {} Try.checked os 7 .any (Rows.contextOrderSpec.pre6 enc Try.prog Try.f7 Rows.contextOrderRow.domain false) (Rows.contextOrderSpec.post enc Try.prog Try.f7 false true false false) := by
  refine returnsInHanded_of_change (C := Try.checked) own started (by kernel_rfl) Try.func7
    (ChangeSpec.witness6 (enc := enc) (C := Try.checked) false ⟨#[], #[.int .i64 0, .agg #[.int .u8 0, .int .u8 0, .int .u8 0], .agg #[.int .u8 0, .int .u8 0, .int .u8 0]], []⟩ 8 (by kernel_rfl) (by kernel_rfl) (by kernel_rfl) (by kernel_rfl)) ?_
  intro W base args ds gs before hval hW hcnd _
  exact law_contract (tb := Try.f7.resultTypes.getD 0 0) (shs := [.i .i64, .ag [.i .u8, .i .u8, .i .u8], .ag [.i .u8, .i .u8, .i .u8]]) (m := 9) mixed noRoutine laidOut Hn rfl (fun ds h => by
    match ds, h with
    | [a, b, c], _ => rfl) (by kernel_rfl) (by kernel_rfl) (reads_ok (by kernel_rfl)) (by kernel_rfl) r7 hval hW

theorem contextOrder_holds : Rows.ContextOrderSaid :=
  OpenClaim.holds_of_wide 7 Try.f7 rfl rfl rfl rfl rfl rfl rfl ⟨rfl, rfl, rfl, rfl, rfl⟩ rfl rfl rfl rfl rfl (by kernel_rfl) Try.func7 (by kernel_rfl)
    (of_decide_eq_true (by kernel_rfl)) (by unfold Func.isWrapper; first | (rw [if_pos (by decide +kernel)]; kernel_rfl) | (rw [if_neg (by decide +kernel)]; exact ⟨rfl, rfl⟩))
    (fun os started H enc _ => contextOrder_lifted os started H enc)

end Go.Proofs.Ytcapaihnachkhaa
