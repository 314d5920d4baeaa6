/-
  ContextSigns: the law answers true for every input.
-/
import Derived.Test.Ytcapaihnachkhaa3
set_option linter.unusedVariables false
set_option maxRecDepth 100000
namespace Go.Proofs.Ytcapaihnachkhaa
open Go.Os
open Go.ChangeShapes Go.WideShapes Go.ChangeAt Go.RowKit

theorem limS (x : Int) : re.mn (re.mx x (-1)) 1 = -1 ∨ re.mn (re.mx x (-1)) 1 = 0 ∨ re.mn (re.mx x (-1)) 1 = 1 := by
  simp only [re]
  split <;> split <;> omega

theorem F17_s {β : Type} (A : Pr) (B : Pk) (N n : Nat) (x y : Int) (k : Int → Int → Option β) : F17_12 A B N (n + 1) x y k =
    F42_6 A B N x (-1) 1 (fun y66 =>
    F42_6 A B N y (-1) 1 (fun y67 =>
      match (A.cm BinOp.lss y66 0) with
        | true => (F17_12 A B N n (A.ar BinOp.sub IntKind.i64 0 y66) (A.ar BinOp.sub IntKind.i64 0 y67) (fun y68 y69 =>
          k y68 1))
        | false => (match (A.cm BinOp.eql y66 0) with
          | true => (match (A.cm BinOp.lss y67 0) with
            | true => (F17_12 A B N n (A.ar BinOp.sub IntKind.i64 0 y66) (A.ar BinOp.sub IntKind.i64 0 y67) (fun y70 y71 =>
              k y70 1))
            | false => (k (A.ar BinOp.add IntKind.i64 (A.ar BinOp.add IntKind.i64 9 (A.ar BinOp.mul IntKind.i64 3 y66)) y67) 0))
          | false => (k (A.ar BinOp.add IntKind.i64 (A.ar BinOp.add IntKind.i64 9 (A.ar BinOp.mul IntKind.i64 3 y66)) y67) 0)))) := rfl

theorem p4 (x1 x2 : Int) : F4_10 re rk 2 x1 x2 (fun y => yes (T.r (R.b y)) []) = some () := by
  unfold F4_10
  simp only [fun k : Int → Int → Option Unit => F17_s re rk 2 1 x1 x2 k, F16_11, F39_2, F42_6]
  rcases limS x1 with h | h | h <;> rcases limS x2 with h' | h' | h' <;> rw [h, h'] <;> kernel_rfl

theorem r4 (xs : List R) (h : shOKL [.i .i64, .i .i64] xs) : ∃ n, runF Try.prog re Hn n 4 (xs.map T.r) = some (.r (.b true), []) := by
  obtain ⟨_, _, rfl, ⟨a, rfl, _, _⟩, _, _, rfl, ⟨b, rfl, _, _⟩, rfl⟩ := h
  exact law_of_snd (o4_10 2) (g := fun kk => F4_10 re rk 2 a b (fun y => kk (T.r (R.b y)) [])) rfl (p4 a b)

theorem contextSigns_lifted (os : Os) (started : os.Started) (H : Type) (enc : TypeId × Value → H) :
    ReturnsInHanded {} Try.checked os 4 .any (Rows.contextSignsSpec.pre6 enc Try.prog Try.f4 Rows.contextSignsRow.domain false) (Rows.contextSignsSpec.post enc Try.prog Try.f4 false true false false) := by
  refine returnsInHanded_of_change (C := Try.checked) own started (by kernel_rfl) Try.func4
    (ChangeSpec.witness6 (enc := enc) (C := Try.checked) false ⟨#[], #[.int .i64 0, .int .i64 0], []⟩ 8 (by kernel_rfl) (by kernel_rfl) (by kernel_rfl) (by kernel_rfl)) ?_
  intro W base args ds gs before hval hW hcnd _
  exact law_contract (tb := Try.f4.resultTypes.getD 0 0) (shs := [.i .i64, .i .i64]) (m := 9) mixed noRoutine laidOut Hn rfl (fun ds h => by
    match ds, h with
    | [a, b], _ => rfl) (by kernel_rfl) (by kernel_rfl) (reads_ok (by kernel_rfl)) (by kernel_rfl) r4 hval hW

theorem contextSigns_holds : Rows.ContextSignsSaid :=
  OpenClaim.holds_of_wide 4 Try.f4 rfl rfl rfl rfl rfl rfl rfl ⟨rfl, rfl, rfl, rfl, rfl⟩ rfl rfl rfl rfl rfl (by kernel_rfl) Try.func4 (by kernel_rfl)
    (of_decide_eq_true (by kernel_rfl)) (by unfold Func.isWrapper; first | (rw [if_pos (by decide +kernel)]; kernel_rfl) | (rw [if_neg (by decide +kernel)]; exact ⟨rfl, rfl⟩))
    (fun os started H enc _ => contextSigns_lifted os started H enc)

end Go.Proofs.Ytcapaihnachkhaa
