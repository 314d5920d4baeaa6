/-
  StreamSame: the law answers true for every input.
-/
import Derived.Test.YthlnfebecphcmaaGreat26c
import Derived.Test.YthlnfebecphcmaaGreatJ4
set_option linter.unusedVariables false
set_option maxRecDepth 100000
namespace Go.Proofs.YthlnfebecphcmaaGreat
open Go.Os
open Go.ChangeShapes Go.WideShapes Go.ChangeAt Go.RowKit
abbrev shS : Sh := .ag [.i .i64, .i .i64, .i .i64, .i .i64, .i .i64, .i .i64, .sl 4 (.ag hC), .i .i64, .i .i64, .i .i64, .i .i64, .i .i64, .sl 2 (.ag hP), .i .i64, .i .i64, .b, .b, .b, .b, .b, .b, .b, .b, .sl 1 (.i .i64), .i .i64, .i .i64, .sl 1 .s, .sl 1 (.sl 6 (.ag hK))]
theorem few18 (a : Int) (b : Int) (c : Int) (d : Int) (tw : Int) (th : Int) (cs : List R) (kn : Int) (lv : Int) (co : Int) (bx : Int) (xy : Int) (pc : List R) (od : Int) (ly : Int) (b1 : Bool) (b2 : Bool) (b3 : Bool) (b4 : Bool) (b5 : Bool) (b6 : Bool) (b7 : Bool) (b8 : Bool) (st : List R) (dd : Int) (sf : Int) (hc : ∀ x ∈ cs, shOK (.ag hC) x) (hp : ∀ x ∈ pc, shOK (.ag hP) x) (hs : ∀ x ∈ st, shOK (.i .i64) x) :
    ∃ v : Bool, (v = true → cs.length < 5000 ∧ pc.length < 5000 ∧ st.length < 5000) ∧ ∀ k : Bool → Option Unit, F18_0 re rk 5000 a b c d tw th cs kn lv co bx xy pc od ly b1 b2 b3 b4 b5 b6 b7 b8 st dd sf k = k v := by
  obtain ⟨v, h1, h2⟩ := few31 a b c d tw th cs kn lv co bx xy pc od ly b1 b2 b3 b4 b5 b6 b7 b8 st dd sf hc hp hs
  refine ⟨v, fun h => ?_, h2⟩
  obtain ⟨_, _, _, _, l1, l2, l3⟩ := h1 h
  exact ⟨l3, l1, l2⟩
theorem r4 (xs : List R) (h : shOKL [shS, shS] xs) : ∃ n, runF Tryz.prog re Hn n 4 (xs.map T.r) = some (.r (.b true), []) := by
  obtain ⟨_, _, rfl, ⟨l1, rfl, hl1⟩, _, _, rfl, ⟨l2, rfl, hl2⟩, rfl⟩ := h
  obtain ⟨_, _, rfl, ⟨a, rfl, _, _⟩, _, _, rfl, ⟨b, rfl, _, _⟩, _, _, rfl, ⟨c, rfl, _, _⟩, _, _, rfl, ⟨d, rfl, _, _⟩, _, _, rfl, ⟨tw, rfl, _, _⟩, _, _, rfl, ⟨th, rfl, _, _⟩, _, _, rfl, ⟨cs, rfl, _, hcs⟩, _, _, rfl, ⟨kn, rfl, _, _⟩, _, _, rfl, ⟨lv, rfl, _, _⟩, _, _, rfl, ⟨co, rfl, _, _⟩, _, _, rfl, ⟨bx, rfl, _, _⟩, _, _, rfl, ⟨xy, rfl, _, _⟩, _, _, rfl, ⟨pc, rfl, _, hpc⟩, _, _, rfl, ⟨od, rfl, _, _⟩, _, _, rfl, ⟨ly, rfl, _, _⟩, _, _, rfl, ⟨b1, rfl⟩, _, _, rfl, ⟨b2, rfl⟩, _, _, rfl, ⟨b3, rfl⟩, _, _, rfl, ⟨b4, rfl⟩, _, _, rfl, ⟨b5, rfl⟩, _, _, rfl, ⟨b6, rfl⟩, _, _, rfl, ⟨b7, rfl⟩, _, _, rfl, ⟨b8, rfl⟩, _, _, rfl, ⟨st, rfl, _, hst⟩, _, _, rfl, ⟨dd, rfl, _, _⟩, _, _, rfl, ⟨sf, rfl, _, _⟩, _, _, rfl, ⟨cm, rfl, _, hcm⟩, _, _, rfl, ⟨tl, rfl, _, htl⟩, rfl⟩ := hl1
  obtain ⟨_, _, rfl, ⟨a', rfl, _, _⟩, _, _, rfl, ⟨b', rfl, _, _⟩, _, _, rfl, ⟨c', rfl, _, _⟩, _, _, rfl, ⟨d', rfl, _, _⟩, _, _, rfl, ⟨tw', rfl, _, _⟩, _, _, rfl, ⟨th', rfl, _, _⟩, _, _, rfl, ⟨cs', rfl, _, hcs'⟩, _, _, rfl, ⟨kn', rfl, _, _⟩, _, _, rfl, ⟨lv', rfl, _, _⟩, _, _, rfl, ⟨co', rfl, _, _⟩, _, _, rfl, ⟨bx', rfl, _, _⟩, _, _, rfl, ⟨xy', rfl, _, _⟩, _, _, rfl, ⟨pc', rfl, _, hpc'⟩, _, _, rfl, ⟨od', rfl, _, _⟩, _, _, rfl, ⟨ly', rfl, _, _⟩, _, _, rfl, ⟨b1', rfl⟩, _, _, rfl, ⟨b2', rfl⟩, _, _, rfl, ⟨b3', rfl⟩, _, _, rfl, ⟨b4', rfl⟩, _, _, rfl, ⟨b5', rfl⟩, _, _, rfl, ⟨b6', rfl⟩, _, _, rfl, ⟨b7', rfl⟩, _, _, rfl, ⟨b8', rfl⟩, _, _, rfl, ⟨st', rfl, _, hst'⟩, _, _, rfl, ⟨dd', rfl, _, _⟩, _, _, rfl, ⟨sf', rfl, _, _⟩, _, _, rfl, ⟨cm', rfl, _, hcm'⟩, _, _, rfl, ⟨tl', rfl, _, htl'⟩, rfl⟩ := hl2
  exact law_of_snd (o4_0 5000) (g := fun kk => F4_0 re rk 5000 a b c d tw th cs kn lv co bx xy pc od ly b1 b2 b3 b4 b5 b6 b7 b8 st dd sf cm tl a' b' c' d' tw' th' cs' kn' lv' co' bx' xy' pc' od' ly' b1' b2' b3' b4' b5' b6' b7' b8' st' dd' sf' cm' tl' (fun y => kk (T.r (R.b y)) [])) rfl
    (p4 a b c d tw th cs kn lv co bx xy pc od ly b1 b2 b3 b4 b5 b6 b7 b8 st dd sf cm tl a' b' c' d' tw' th' cs' kn' lv' co' bx' xy' pc' od' ly' b1' b2' b3' b4' b5' b6' b7' b8' st' dd' sf' cm' tl' hcs hpc hst hcm htl hcs' hpc' hst' hcm' htl' (few18 a b c d tw th cs kn lv co bx xy pc od ly b1 b2 b3 b4 b5 b6 b7 b8 st dd sf hcs hpc hst) (few18 a' b' c' d' tw' th' cs' kn' lv' co' bx' xy' pc' od' ly' b1' b2' b3' b4' b5' b6' b7' b8' st' dd' sf' hcs' hpc' hst'))
theorem streamSame_lifted (os : Os) (started : os.Started) (H : Type) (enc : TypeId × Value → H) :
    ReturnsInHanded {} Tryz.checked os 4 .any (Rows.streamSameSpec.pre6 enc Tryz.prog Tryz.f4 Rows.streamSameRow.domain false) (Rows.streamSameSpec.post enc Tryz.prog Tryz.f4 false true false false) := by
  refine returnsInHanded_of_change (C := Tryz.checked) own started (by kernel_rfl) Tryz.func4
    (ChangeSpec.witness6 (enc := enc) (C := Tryz.checked) false ⟨#[], #[.agg #[.int .i64 0, .int .i64 0, .int .i64 0, .int .i64 0, .int .i64 0, .int .i64 0, .slice none 0 0, .int .i64 0, .int .i64 0, .int .i64 0, .int .i64 0, .int .i64 0, .slice none 0 0, .int .i64 0, .int .i64 0, .bool false, .bool false, .bool false, .bool false, .bool false, .bool false, .bool false, .bool false, .slice none 0 0, .int .i64 0, .int .i64 0, .slice none 0 0, .slice none 0 0], .agg #[.int .i64 0, .int .i64 0, .int .i64 0, .int .i64 0, .int .i64 0, .int .i64 0, .slice none 0 0, .int .i64 0, .int .i64 0, .int .i64 0, .int .i64 0, .int .i64 0, .slice none 0 0, .int .i64 0, .int .i64 0, .bool false, .bool false, .bool false, .bool false, .bool false, .bool false, .bool false, .bool false, .slice none 0 0, .int .i64 0, .int .i64 0, .slice none 0 0, .slice none 0 0]], []⟩ 4 (by kernel_rfl) (by kernel_rfl) (by kernel_rfl) (by kernel_rfl)) ?_
  intro W base args ds gs before hval hW hcnd _
  exact law_contract (tb := Tryz.f4.resultTypes.getD 0 0) (shs := [shS, shS]) (m := 9) mixed noRoutine laidOut Hn rfl (fun ds h => by
    match ds, h with
    | [a, b], _ => rfl) (by kernel_rfl) (by kernel_rfl) (reads_ok (by kernel_rfl)) (by kernel_rfl) r4 hval hW
theorem streamSame_holds : Rows.StreamSameSaid :=
  OpenClaim.holds_of_wide 4 Tryz.f4 rfl rfl rfl rfl rfl rfl rfl ⟨rfl, rfl, rfl, rfl, rfl⟩ rfl rfl rfl rfl rfl (by kernel_rfl) Tryz.func4 joined
    (of_decide_eq_true (by kernel_rfl)) (by unfold Func.isWrapper; first | (rw [if_pos (by decide +kernel)]; kernel_rfl) | (rw [if_neg (by decide +kernel)]; exact ⟨rfl, rfl⟩))
    (fun os started H enc _ => streamSame_lifted os started H enc)
end Go.Proofs.YthlnfebecphcmaaGreat
