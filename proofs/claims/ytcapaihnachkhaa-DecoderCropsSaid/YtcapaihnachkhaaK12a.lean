/-
  The functions' trees, printed by a program of ours.
-/
import Derived.Test.YtcapaihnachkhaaH5
set_option linter.unusedVariables false
set_option maxRecDepth 100000
namespace Go.Proofs.Ytcapaihnachkhaa
open Go.Os
section
abbrev pI : PT := .r (.i .i64)
abbrev pB : PT := .r .b
abbrev tI (x : Int) : T := .r (.i .i64 x)
abbrev tB (x : Bool) : T := .r (.b x)
abbrev K4 (β : Type) := Int → Int → Int → Int → Option β
abbrev KB (β : Type) := Bool → Option β
abbrev KI (β : Type) := Int → Option β
abbrev KL (β : Type) := List R → Option β
abbrev Q0 (β : Type) := Int → Int → Int → Int → Int → Int → Int → Int → Int → List R → Int → Option β
abbrev Q1 (β : Type) := Int → Int → Int → Int → Int → Int → Int → Int → Int → List R → Int → Int → Option β
abbrev Q2 (β : Type) := Int → Int → Int → Int → Int → Int → List R → Int → Int → Int → Int → Int → Int → Int → Bool → Bool → Bool → Bool → Bool → Bool → Bool → Bool → Int → Int → Int → Int → Option β
abbrev Q3 (β : Type) := Int → Int → Int → Int → Int → Int → List R → List R → Int → Int → Option β
abbrev Q4 (β : Type) := Int → Int → Int → Int → Int → Int → List R → Int → Int → Int → Int → Int → Int → Int → Bool → Bool → Bool → Bool → Bool → Bool → Bool → Bool → List R → Int → Int → Option β
abbrev Q5 (β : Type) := Int → Int → Int → Int → Int → Int → List R → Int → Int → Int → Int → Int → Int → Int → Bool → Bool → Bool → Bool → Bool → Bool → Bool → Bool → List R → Int → Int → Int → Int → Option β
abbrev Q6 (β : Type) := Int → Int → Int → Int → Int → Int → Int → Int → Int → Int → Int → Int → Int → Int → Int → Int → Int → Int → Int → Int → Int → Int → Int → Int → Int → Int → Int → Int → Int → Int → Int → Int → Option β
abbrev Q7 (β : Type) := Int → Int → Int → Int → Int → Int → Int → Int → Int → Int → Int → Int → Int → Int → Int → Int → Int → Int → Int → Int → Int → Int → Int → Int → Int → Int → Int → Int → Int → Int → Int → Int → Int → Int → Int → Int → Int → Option β
abbrev Q8 (β : Type) := Int → Int → Int → Int → Int → Int → Int → Int → Int → Int → Int → Int → Int → Int → Int → Int → Option β
abbrev Q9 (β : Type) := Int → Int → Int → Int → Int → Int → Int → Bool → Bool → Bool → Bool → Bool → Bool → Bool → Bool → List R → Int → Int → Int → Int → Int → Int → Bool → Int → Int → Int → Int → Int → Int → List R → Int → Int → Option β
abbrev Q10 (β : Type) := Int → Int → Int → Int → Int → Int → Int → Bool → Bool → Bool → Bool → Bool → Bool → Bool → Bool → List R → Int → Int → Int → Int → Int → Int → Int → Int → Int → Int → Int → Int → List R → Int → Int → Option β
abbrev Q11 (β : Type) := Int → Int → Int → Int → Int → Int → Int → Bool → Bool → Bool → Bool → Bool → Bool → Bool → Bool → List R → Int → Int → Int → Int → Int → Int → Int → Int → Int → Int → Int → Int → Int → Int → List R → Int → Int → List R → Int → Int → Option β
abbrev Q12 (β : Type) := Int → Int → Int → Int → Int → Int → Int → Bool → Bool → Bool → Bool → Bool → Bool → Bool → Bool → List R → Int → Int → Int → Int → Int → Int → Bool → Int → List R → Int → Int → Option β
abbrev Q13 (β : Type) := Int → Int → Int → Int → Int → Int → Int → Bool → Bool → Bool → Bool → Bool → Bool → Bool → Bool → List R → Int → Int → Int → Int → Int → Int → Int → List R → Int → Int → Option β
abbrev Q14 (β : Type) := Int → Int → Int → Int → Int → Int → List R → Int → Int → Int → Int → Int → Int → Int → Bool → Bool → Bool → Bool → Bool → Bool → Bool → Bool → List R → Int → Int → List R → Int → Int → Option β
abbrev Q15 (β : Type) := Int → Int → Int → Int → Int → Int → List R → Int → Int → Int → Int → Int → List R → Int → Int → Bool → Bool → Bool → Bool → Bool → Bool → Bool → Bool → List R → Int → Int → Option β
abbrev Q16 (β : Type) := Int → Int → Int → Int → Int → Int → Int → List R → List R → Int → Int → Option β
abbrev Q17 (β : Type) := Int → Int → Int → Int → Int → Int → List R → Int → Int → List R → Int → Int → List R → Int → Int → Option β
abbrev Q18 (β : Type) := Int → Int → Int → Int → List R → Int → Int → Int → Int → Int → Int → Int → Int → List R → Int → Int → Int → Int → Int → Option β
abbrev Q19 (β : Type) := Int → Int → Int → Int → Int → Int → Int → Int → Int → Int → Int → Int → Int → Int → Int → Int → Int → Int → Int → List R → Int → Int → Int → Int → Int → List R → Int → Int → Bool → Bool → Bool → Bool → Bool → Bool → Bool → Bool → List R → Int → Int → Option β
abbrev Q20 (β : Type) := Int → Int → Int → Int → Int → Int → Int → Int → Int → Int → Int → Int → Int → Int → Int → Int → Int → Int → List R → Int → Int → Int → Int → Int → List R → Int → Int → Bool → Bool → Bool → Bool → Bool → Bool → Bool → Bool → List R → Int → Int → Option β
abbrev Q21 (β : Type) := Int → Int → Int → Int → Int → Int → Int → Int → Int → Int → Int → Int → Int → Int → Int → Int → Int → Int → Int → List R → Int → Int → Int → Int → Int → List R → Int → Int → Bool → Bool → Bool → Bool → Bool → Bool → Bool → Bool → List R → Int → Int → List R → Option β
abbrev Q22 (β : Type) := Int → Int → Int → Int → Int → Int → Int → Int → Int → Int → Int → Int → Int → Int → Int → Int → Int → Int → List R → Int → Int → Int → Int → Int → List R → Int → Int → Bool → Bool → Bool → Bool → Bool → Bool → Bool → Bool → List R → Int → Int → List R → Option β
abbrev Q23 (β : Type) := Int → Int → Int → Int → Int → Int → List R → List R → Int → Int → Int → Int → Int → Int → Int → Int → Int → Int → Int → Int → Int → Int → Int → Int → Int → Int → Int → Int → Int → Int → Int → Int → List R → Int → Int → Int → Int → Int → List R → Int → Int → Bool → Bool → Bool → Bool → Bool → Bool → Bool → Bool → List R → Int → Int → Int → Int → Option β
abbrev Q24 (β : Type) := Int → Int → Int → Int → Int → Int → List R → List R → Int → Int → Int → Int → Int → Int → Int → Int → Int → Int → Int → Int → Int → Int → Int → Int → Int → Int → Int → Int → Int → Int → Int → Int → List R → Int → Int → Int → Int → Int → List R → Int → Int → Bool → Bool → Bool → Bool → Bool → Bool → Bool → Bool → List R → Int → Int → Int → Int → List R → Option β
abbrev Q25 (β : Type) := Int → Int → Int → Int → Int → Int → List R → List R → Int → Option β
abbrev Q26 (β : Type) := Int → Int → Int → Int → Int → Int → List R → List R → Int → List R → Int → Int → Option β
abbrev Q27 (β : Type) := Int → Int → Int → Int → Int → Int → List R → List R → List R → Int → Int → Option β
abbrev Q28 (β : Type) := Int → Int → Int → Int → Int → Int → List R → List R → Int → Int → List R → Int → Int → List R → Int → Int → Option β
abbrev Q29 (β : Type) := Int → Int → Int → Int → List R → Int → Int → Int → Int → Int → Int → Int → Int → Int → Int → Int → Int → Int → Option β
abbrev Q30 (β : Type) := Int → Int → Int → Int → List R → Int → Int → Int → Int → Int → Int → Int → Int → Int → Int → Int → Int → Int → List R → Option β
abbrev Q31 (β : Type) := Int → Int → Int → Int → List R → Int → Int → Int → Int → Int → Int → Int → Int → Int → Int → Int → Int → Int → Int → Option β
abbrev Q32 (β : Type) := Int → Int → Int → Int → List R → Int → Int → Int → Int → Int → Int → Int → Int → Int → Int → Int → Int → Int → Int → List R → Option β
abbrev Q33 (β : Type) := Int → Int → Int → Int → Int → Int → Int → Int → List R → Option β
abbrev Q34 (β : Type) := Int → Int → Int → Int → Int → Int → Int → Int → Int → Int → Int → Int → Int → List R → Option β
abbrev Q35 (β : Type) := Int → Int → Int → Int → Int → Int → Int → Int → Int → Int → Int → Int → List R → Option β
abbrev Q36 (β : Type) := Int → Int → Int → Int → Int → Int → Int → Int → Int → Int → Int → Int → Int → List R → List R → Option β
abbrev Q37 (β : Type) := Int → Int → Int → Int → Int → Int → Int → Int → Int → Int → Int → Int → List R → List R → Option β
abbrev Q38 (β : Type) := Int → Int → Int → Int → Int → Int → List R → List R → Int → Int → Int → Int → Int → Int → Int → Int → Int → Int → Int → Int → Int → Int → Int → Int → Int → Int → List R → Int → Int → Option β
abbrev Q39 (β : Type) := Int → Int → Int → Int → Int → Int → List R → List R → Int → Int → Int → Int → Int → Int → Int → Int → Int → Int → Int → Int → Int → Int → Int → Int → Int → Int → List R → Int → Int → List R → Option β
abbrev Q40 (β : Type) := Int → Int → Int → Int → Int → Int → Int → Int → Int → Int → Int → Int → Int → Option β
abbrev Q41 (β : Type) := Int → Int → Int → Int → Int → Int → Int → Bool → Bool → Bool → Bool → Bool → Bool → Bool → Bool → Int → Int → Int → Int → Int → Int → Int → Int → Int → Bool → Bool → Bool → Bool → Bool → Bool → Bool → Bool → Int → Int → Option β
abbrev Q42 (β : Type) := Int → Int → Int → Int → Int → Int → Int → Bool → Bool → Bool → Bool → Bool → Bool → Bool → Bool → Int → Int → Int → Int → Int → Int → Int → Int → Int → Bool → Bool → Bool → Bool → Bool → Bool → Bool → Bool → Int → Int → Int → Option β
abbrev Q43 (β : Type) := Int → Int → Int → Int → Int → Int → Int → Int → Int → Int → Int → Int → Int → Int → Option β
abbrev Q44 (β : Type) := Int → Int → Int → Int → Int → Int → Int → Int → Int → Int → Int → Int → List R → Int → Option β
abbrev Q45 (β : Type) := Int → Int → Int → Int → Int → Int → Int → Int → Int → Int → Int → Int → List R → Int → Int → Option β
abbrev Q46 (β : Type) := Int → Int → Int → Int → Int → Int → Int → Int → Int → Int → Int → Int → List R → List R → Int → Int → Option β
abbrev Q47 (β : Type) := Int → Int → Int → Int → Int → Int → List R → Int → Int → Int → Int → Int → Int → Int → Option β
abbrev Q48 (β : Type) := Int → Int → Int → Int → Int → Int → List R → Int → Int → Int → Int → Int → Int → Int → Int → Option β
abbrev Q49 (β : Type) := Int → Int → Int → Int → Int → Int → List R → Int → Int → Int → Int → Int → Int → List R → Int → Option β
abbrev Q50 (β : Type) := Int → Int → Int → Int → Int → Int → List R → Int → Int → Int → Int → Int → Int → List R → Int → Int → Option β
abbrev Q51 (β : Type) := Int → Int → Int → Int → Int → Int → List R → Int → Int → Int → Int → Int → Int → List R → List R → Int → Int → Option β
abbrev Q52 (β : Type) := Int → Int → Int → Int → Int → Int → List R → List R → Int → Int → Int → Int → Int → Int → Int → Int → Option β
abbrev Q53 (β : Type) := Int → Int → Int → Int → Int → Int → List R → List R → Int → Int → Int → Int → Int → Int → List R → Int → Int → Option β
abbrev Q54 (β : Type) := Int → Int → Int → Int → Int → Int → List R → List R → Int → Int → Int → Int → Int → Int → List R → List R → Int → Int → Option β
def G65_0 {β : Type} (A : Pr) (B : Pk) (x0 x1 x2 x3 : Int) (k0 : KB β) : Option β :=
    match (A.cm .leq 0 x0) with
    | true => (match (A.cm .leq x0 x2) with
      | true => (match (A.cm .leq x2 4096) with
        | true => (match (A.cm .leq 0 x1) with
          | true => (match (A.cm .leq x1 x3) with
            | true => (k0 (A.cm .leq x3 4096))
            | false => (k0 false))
          | false => (k0 false))
        | false => (k0 false))
      | false => (k0 false))
    | false => (k0 false)
def F65_0 {β : Type} (A : Pr) (B : Pk) (N : Nat) (x0 x1 x2 x3 : Int) (k0 : KB β) : Option β :=
  G65_0 A B  x0 x1 x2 x3 k0
def P0 : List PT := [(.r (.a [(.i .i64), (.i .i64), (.i .i64), (.i .i64)]))]
def M65_0 {β : Type} (f65_0 : Int → Int → Int → Int → (KB β) → Option β) (a : List T) : Option ((T → List (List T) → Option β) → Option β) :=
  match gTs P0 a [] with
  | some [.i x0, .i x1, .i x2, .i x3] => some fun kk => f65_0 x0 x1 x2 x3 (fun x4 => kk (tB x4) [])
  | _ => none
theorem e65_0 {β : Type} (A : Pr) (B : Pk) (x0 x1 x2 x3 : Int) (kk : T → List (List T) → Option β) :
    uTs P0 [.i x0, .i x1, .i x2, .i x3] (fun a _ => bodyK (mkK Try.prog A B [] [] (Hn 65).pt []) Try.f65 a kk) = G65_0 A B  x0 x1 x2 x3 (fun x4 => kk (tB x4) []) := by kernel_rfl
theorem o65_0 {β : Type} (N : Nat) : Snd (β := β) Try.prog Hn 65 (M65_0 (F65_0 re rk N)) := by
  intro a h kk r ha hr
  unfold M65_0 at ha
  split at ha
  · rename_i hs
    cases ha
    have hk := via_pat hs ((e65_0 re rk  _ _ _ _ kk).trans hr)
    exact fn_ok (f := 65) (fn := Try.f65) (H := Hn) (by kernel_rfl) (show SndAll Try.prog Hn [] from trivial) (spots := []) (by kernel_rfl) trivial hk
  · cases ha
def G66_0 {β : Type} (A : Pr) (B : Pk) (x0 x1 x2 x3 : Int) (k0 : KB β) : Option β :=
    match (A.cm .geq x0 x2) with
    | true => (k0 true)
    | false => (k0 (A.cm .geq x1 x3))
def F66_0 {β : Type} (A : Pr) (B : Pk) (N : Nat) (x0 x1 x2 x3 : Int) (k0 : KB β) : Option β :=
  G66_0 A B  x0 x1 x2 x3 k0
def M66_0 {β : Type} (f66_0 : Int → Int → Int → Int → (KB β) → Option β) (a : List T) : Option ((T → List (List T) → Option β) → Option β) :=
  match gTs P0 a [] with
  | some [.i x0, .i x1, .i x2, .i x3] => some fun kk => f66_0 x0 x1 x2 x3 (fun x4 => kk (tB x4) [])
  | _ => none
theorem e66_0 {β : Type} (A : Pr) (B : Pk) (x0 x1 x2 x3 : Int) (kk : T → List (List T) → Option β) :
    uTs P0 [.i x0, .i x1, .i x2, .i x3] (fun a _ => bodyK (mkK Try.prog A B [] [] (Hn 66).pt []) Try.f66 a kk) = G66_0 A B  x0 x1 x2 x3 (fun x4 => kk (tB x4) []) := by kernel_rfl
theorem o66_0 {β : Type} (N : Nat) : Snd (β := β) Try.prog Hn 66 (M66_0 (F66_0 re rk N)) := by
  intro a h kk r ha hr
  unfold M66_0 at ha
  split at ha
  · rename_i hs
    cases ha
    have hk := via_pat hs ((e66_0 re rk  _ _ _ _ kk).trans hr)
    exact fn_ok (f := 66) (fn := Try.f66) (H := Hn) (by kernel_rfl) (show SndAll Try.prog Hn [] from trivial) (spots := []) (by kernel_rfl) trivial hk
  · cases ha
def G77_0 {β : Type} (A : Pr) (B : Pk) (x0 x1 x2 : Int) (k0 : KB β) : Option β :=
    match (A.cm .leq x1 x0) with
    | true => (k0 (A.cm .leq x0 x2))
    | false => (k0 false)
def F77_0 {β : Type} (A : Pr) (B : Pk) (N : Nat) (x0 x1 x2 : Int) (k0 : KB β) : Option β :=
  G77_0 A B  x0 x1 x2 k0
def P1 : List PT := [pI, pI, pI]
def M77_0 {β : Type} (f77_0 : Int → Int → Int → (KB β) → Option β) (a : List T) : Option ((T → List (List T) → Option β) → Option β) :=
  match gTs P1 a [] with
  | some [.i x0, .i x1, .i x2] => some fun kk => f77_0 x0 x1 x2 (fun x3 => kk (tB x3) [])
  | _ => none
theorem e77_0 {β : Type} (A : Pr) (B : Pk) (x0 x1 x2 : Int) (kk : T → List (List T) → Option β) :
    uTs P1 [.i x0, .i x1, .i x2] (fun a _ => bodyK (mkK Try.prog A B [] [] (Hn 77).pt []) Try.f77 a kk) = G77_0 A B  x0 x1 x2 (fun x3 => kk (tB x3) []) := by kernel_rfl
theorem o77_0 {β : Type} (N : Nat) : Snd (β := β) Try.prog Hn 77 (M77_0 (F77_0 re rk N)) := by
  intro a h kk r ha hr
  unfold M77_0 at ha
  split at ha
  · rename_i hs
    cases ha
    have hk := via_pat hs ((e77_0 re rk  _ _ _ kk).trans hr)
    exact fn_ok (f := 77) (fn := Try.f77) (H := Hn) (by kernel_rfl) (show SndAll Try.prog Hn [] from trivial) (spots := []) (by kernel_rfl) trivial hk
  · cases ha
def G80_0 {β : Type} (A : Pr) (B : Pk) (x0 x1 : Int) (k0 : KI β) : Option β :=
    match (A.cm .lss x1 1) with
    | true => (k0 0)
    | false => (match (A.nz x1) with
      | true => none
      | false => (match (A.nz x1) with
        | true => none
        | false => (match (A.cm .gtr (A.ar .rem .i64 x0 x1) 0) with
          | true => (k0 (A.ar .add .i64 (A.ar .quo .i64 x0 x1) 1))
          | false => (k0 (A.ar .quo .i64 x0 x1)))))
def F80_0 {β : Type} (A : Pr) (B : Pk) (N : Nat) (x0 x1 : Int) (k0 : KI β) : Option β :=
  G80_0 A B  x0 x1 k0
def P2 : List PT := [pI, pI]
def M80_0 {β : Type} (f80_0 : Int → Int → (KI β) → Option β) (a : List T) : Option ((T → List (List T) → Option β) → Option β) :=
  match gTs P2 a [] with
  | some [.i x0, .i x1] => some fun kk => f80_0 x0 x1 (fun x2 => kk (tI x2) [])
  | _ => none
theorem e80_0 {β : Type} (A : Pr) (B : Pk) (x0 x1 : Int) (kk : T → List (List T) → Option β) :
    uTs P2 [.i x0, .i x1] (fun a _ => bodyK (mkK Try.prog A B [] [] (Hn 80).pt []) Try.f80 a kk) = G80_0 A B  x0 x1 (fun x2 => kk (tI x2) []) := by kernel_rfl
theorem o80_0 {β : Type} (N : Nat) : Snd (β := β) Try.prog Hn 80 (M80_0 (F80_0 re rk N)) := by
  intro a h kk r ha hr
  unfold M80_0 at ha
  split at ha
  · rename_i hs
    cases ha
    have hk := via_pat hs ((e80_0 re rk  _ _ kk).trans hr)
    exact fn_ok (f := 80) (fn := Try.f80) (H := Hn) (by kernel_rfl) (show SndAll Try.prog Hn [] from trivial) (spots := []) (by kernel_rfl) trivial hk
  · cases ha
def G51_0 {β : Type} (A : Pr) (B : Pk) (f65_0 : Int → Int → Int → Int → (KB β) → Option β) (f80_0 : Int → Int → (KI β) → Option β) (x0 x1 x2 x3 x4 x5 : Int) (k0 : K4 β) : Option β :=
    f65_0 x0 x1 x2 x3 (fun x6 =>
    match (A.bn x6) with
      | true => (k0 0 0 0 0)
      | false => (match (A.cm .lss x4 1) with
        | true => (k0 0 0 0 0)
        | false => (match (A.cm .gtr x4 4096) with
          | true => (k0 0 0 0 0)
          | false => (match (A.cm .lss x5 1) with
            | true => (k0 0 0 0 0)
            | false => (match (A.cm .gtr x5 4096) with
              | true => (k0 0 0 0 0)
              | false => (f80_0 x0 x4 (fun x7 =>
                f80_0 x1 x5 (fun x8 =>
                  f80_0 x2 x4 (fun x9 =>
                    f80_0 x3 x5 (fun xa =>
                      k0 x7 x8 x9 xa))))))))))
def F51_0 {β : Type} (A : Pr) (B : Pk) (N : Nat) (x0 x1 x2 x3 x4 x5 : Int) (k0 : K4 β) : Option β :=
  G51_0 A B (F65_0 A B N) (F80_0 A B N) x0 x1 x2 x3 x4 x5 k0
def P3 : List PT := [(.r (.a [(.i .i64), (.i .i64), (.i .i64), (.i .i64)])), pI, pI]
def M51_0 {β : Type} (f51_0 : Int → Int → Int → Int → Int → Int → (K4 β) → Option β) (a : List T) : Option ((T → List (List T) → Option β) → Option β) :=
  match gTs P3 a [] with
  | some [.i x0, .i x1, .i x2, .i x3, .i x4, .i x5] => some fun kk => f51_0 x0 x1 x2 x3 x4 x5 (fun x6 x7 x8 x9 => kk (T.r (R.a [(R.i .i64 x6), (R.i .i64 x7), (R.i .i64 x8), (R.i .i64 x9)])) [])
  | _ => none
theorem e51_0 {β : Type} (A : Pr) (B : Pk) (f65_0 : Int → Int → Int → Int → (KB β) → Option β) (f80_0 : Int → Int → (KI β) → Option β) (x0 x1 x2 x3 x4 x5 : Int) (kk : T → List (List T) → Option β) :
    uTs P3 [.i x0, .i x1, .i x2, .i x3, .i x4, .i x5] (fun a _ => bodyK (mkK Try.prog A B [(65, M65_0 f65_0), (80, M80_0 f80_0)] [] (Hn 51).pt []) Try.f51 a kk) = G51_0 A B f65_0 f80_0 x0 x1 x2 x3 x4 x5 (fun x6 x7 x8 x9 => kk (T.r (R.a [(R.i .i64 x6), (R.i .i64 x7), (R.i .i64 x8), (R.i .i64 x9)])) []) := by kernel_rfl
theorem o51_0 {β : Type} (N : Nat) : Snd (β := β) Try.prog Hn 51 (M51_0 (F51_0 re rk N)) := by
  intro a h kk r ha hr
  unfold M51_0 at ha
  split at ha
  · rename_i hs
    cases ha
    have hk := via_pat hs ((e51_0 re rk (F65_0 re rk N) (F80_0 re rk N) _ _ _ _ _ _ kk).trans hr)
    exact fn_ok (f := 51) (fn := Try.f51) (H := Hn) (by kernel_rfl) (show SndAll Try.prog Hn [(65, M65_0 (F65_0 re rk N)), (80, M80_0 (F80_0 re rk N))] from ⟨o65_0 N, o80_0 N, trivial⟩) (spots := []) (by kernel_rfl) trivial hk
  · cases ha
noncomputable def X49_4 : Code := atF Try.f49 [true, true, false, true, false, false]
theorem i49_4 : firstReg X49_4 = 4 := by kernel_rfl
def GL49_4_0 {β : Type} (A : Pr) (B : Pk) (f77_0 : Int → Int → Int → (KB β) → Option β) (f51_0 : Int → Int → Int → Int → Int → Int → (K4 β) → Option β) (f66_0 : Int → Int → Int → Int → (KB β) → Option β) (l49_4_0 : (Int → Int → Int → Int → Int → Int → List R → Int → Option β) → (Int → Int → Int → Int → Int → Int → List R → Option β) → Int → Int → Int → Int → Int → Int → List R → Int → Option β) (k0 : Int → Int → Int → Int → Int → Int → List R → Int → Option β) (k1 : Int → Int → Int → Int → Int → Int → List R → Option β) (x0 x1 x2 x3 x4 x5 : Int) (x6 : List R) (x7 : Int) : Option β :=
    match (A.cm .lss x7 (A.on (A.len x6))) with
    | true => (match (A.ix x7 (A.len x6)) with
      | some x8 => (match (B.okE [(Sh.i .i64), Sh.b, (Sh.i .i64), (Sh.i .i64)] true x6 x8) with
        | true => (f77_0 (B.ci x6 x8 0) 1 16 (fun x9 =>
          match (A.bn x9) with
            | true => (k0 x0 x1 x2 x3 x4 x5 x6 12)
            | false => (f77_0 (B.ci x6 x8 2) 1 4 (fun xa =>
              match (A.bn xa) with
                | true => (k0 x0 x1 x2 x3 x4 x5 x6 12)
                | false => (f77_0 (B.ci x6 x8 3) 1 4 (fun xb =>
                  match (A.bn xb) with
                    | true => (k0 x0 x1 x2 x3 x4 x5 x6 12)
                    | false => (f51_0 x0 x1 x2 x3 (B.ci x6 x8 2) (B.ci x6 x8 3) (fun xc xd xe xf =>
                      f66_0 xc xd xe xf (fun xg =>
                        match xg with
                          | true => (k0 x0 x1 x2 x3 x4 x5 x6 12)
                          | false => (l49_4_0 k0 k1 x0 x1 x2 x3 x4 x5 x6 (A.ar .add .i64 x7 1)))))))))))
        | false => none)
      | none => none)
    | false => (k1 x0 x1 x2 x3 x4 x5 x6)
def L49_4_0 {β : Type} (A : Pr) (B : Pk) (N : Nat) : Nat → (Int → Int → Int → Int → Int → Int → List R → Int → Option β) → (Int → Int → Int → Int → Int → Int → List R → Option β) → Int → Int → Int → Int → Int → Int → List R → Int → Option β
  | 0, _, _, _, _, _, _, _, _, _, _ => none
  | n + 1, k0, k1, x0, x1, x2, x3, x4, x5, x6, x7 =>
    GL49_4_0 A B (F77_0 A B N) (F51_0 A B N) (F66_0 A B N) (L49_4_0 A B N n) k0 k1 x0 x1 x2 x3 x4 x5 x6 x7
def P4 : List PT := [.us 1, (.bx [pI, pI, pI, pI, pI, pI, (.r (.ro 4))]), pI, .us 94]
def S4 (x0 x1 x2 x3 x4 x5 : Int) (x6 : List R) (x7 : Int) : List T := (T.u :: (T.bx [(tI x0), (tI x1), (tI x2), (tI x3), (tI x4), (tI x5), (T.r (R.ro 4 x6))]) :: (tI x7) :: T.u :: T.u :: T.u :: T.u :: T.u :: T.u :: T.u :: T.u :: T.u :: T.u :: T.u :: T.u :: T.u :: T.u :: T.u :: T.u :: T.u :: T.u :: T.u :: T.u :: T.u :: T.u :: T.u :: T.u :: T.u :: T.u :: T.u :: T.u :: T.u :: T.u :: T.u :: T.u :: T.u :: T.u :: T.u :: T.u :: T.u :: T.u :: T.u :: T.u :: T.u :: T.u :: T.u :: T.u :: T.u :: T.u :: T.u :: T.u :: T.u :: T.u :: T.u :: T.u :: T.u :: T.u :: T.u :: T.u :: T.u :: T.u :: T.u :: T.u :: T.u :: T.u :: T.u :: T.u :: T.u :: T.u :: T.u :: T.u :: T.u :: T.u :: T.u :: T.u :: T.u :: T.u :: T.u :: T.u :: T.u :: T.u :: T.u :: T.u :: T.u :: T.u :: T.u :: T.u :: T.u :: T.u :: T.u :: T.u :: T.u :: T.u :: T.u :: T.u :: T.u :: T.u :: [])
def P5 : List PT := [.us 1, (.bx [pI, pI, pI, pI, pI, pI, (.r (.ro 4))]), .us 95]
def S5 (x0 x1 x2 x3 x4 x5 : Int) (x6 : List R) : List T := (T.u :: (T.bx [(tI x0), (tI x1), (tI x2), (tI x3), (tI x4), (tI x5), (T.r (R.ro 4 x6))]) :: T.u :: T.u :: T.u :: T.u :: T.u :: T.u :: T.u :: T.u :: T.u :: T.u :: T.u :: T.u :: T.u :: T.u :: T.u :: T.u :: T.u :: T.u :: T.u :: T.u :: T.u :: T.u :: T.u :: T.u :: T.u :: T.u :: T.u :: T.u :: T.u :: T.u :: T.u :: T.u :: T.u :: T.u :: T.u :: T.u :: T.u :: T.u :: T.u :: T.u :: T.u :: T.u :: T.u :: T.u :: T.u :: T.u :: T.u :: T.u :: T.u :: T.u :: T.u :: T.u :: T.u :: T.u :: T.u :: T.u :: T.u :: T.u :: T.u :: T.u :: T.u :: T.u :: T.u :: T.u :: T.u :: T.u :: T.u :: T.u :: T.u :: T.u :: T.u :: T.u :: T.u :: T.u :: T.u :: T.u :: T.u :: T.u :: T.u :: T.u :: T.u :: T.u :: T.u :: T.u :: T.u :: T.u :: T.u :: T.u :: T.u :: T.u :: T.u :: T.u :: T.u :: T.u :: T.u :: [])
def P6 : List PT := [.us 1, (.bx [pI, pI, pI, pI, pI, pI, (.r (.ro 4))]), .us 1, pI, .us 93]
noncomputable def M49_4 {β : Type} (l49_4_0 : (Int → Int → Int → Int → Int → Int → List R → Int → Option β) → (Int → Int → Int → Int → Int → Int → List R → Option β) → Int → Int → Int → Int → Int → Int → List R → Int → Option β) (s : List T) : Option ((Ex → List T → Option β) → Option β) :=
  match gTs P6 (clean ((Hn 49).lp 4).1 s) [] with
  | some [.i x0, .i x1, .i x2, .i x3, .i x4, .i x5, .l x6, .i x7] => some fun kk => l49_4_0 (fun x8 x9 xa xb xc xd xe xf => kk Ex.rt (S4 x8 x9 xa xb xc xd xe xf)) (fun xg xh xi xj xk xl xm => kk (Ex.ex 0) (S5 xg xh xi xj xk xl xm)) x0 x1 x2 x3 x4 x5 x6 x7
  | _ => none
theorem e49_4_0 {β : Type} (A : Pr) (B : Pk) (f77_0 : Int → Int → Int → (KB β) → Option β) (f51_0 : Int → Int → Int → Int → Int → Int → (K4 β) → Option β) (f66_0 : Int → Int → Int → Int → (KB β) → Option β) (l49_4_0 : (Int → Int → Int → Int → Int → Int → List R → Int → Option β) → (Int → Int → Int → Int → Int → Int → List R → Option β) → Int → Int → Int → Int → Int → Int → List R → Int → Option β) (x0 x1 x2 x3 x4 x5 : Int) (x6 : List R) (x7 : Int) (kk : Ex → List T → Option β) :
    uTs P6 [.i x0, .i x1, .i x2, .i x3, .i x4, .i x5, .l x6, .i x7] (fun s _ => evK (mkK Try.prog A B [(77, M77_0 f77_0), (51, M51_0 f51_0), (66, M66_0 f66_0)] [] (Hn 49).pt []) X49_4 s (fun e s' => match e with
      | .nm => (match M49_4 l49_4_0 s' with | some h => h kk | none => none)
      | .ex m => kk (.ex m) (clean ((Hn 49).lp (firstReg X49_4)).2 s')
      | .rt => kk .rt (clean ((Hn 49).lp (firstReg X49_4)).2 s'))) = GL49_4_0 A B f77_0 f51_0 f66_0 l49_4_0 (fun x8 x9 xa xb xc xd xe xf => kk Ex.rt (S4 x8 x9 xa xb xc xd xe xf)) (fun xg xh xi xj xk xl xm => kk (Ex.ex 0) (S5 xg xh xi xj xk xl xm)) x0 x1 x2 x3 x4 x5 x6 x7 := by kernel_rfl
theorem ol49_4 {β : Type} (N : Nat) : ∀ n, SndL (β := β) Try.prog Hn (Hn 49) X49_4 (M49_4 (L49_4_0 re rk N n))
  | 0 => by
    intro s h kk r ha hr
    unfold M49_4 at ha
    split at ha
    · cases ha; cases hr
    · cases ha
  | n + 1 => by
    have ih := ol49_4 (β := β) N n
    intro s h kk r ha hr
    unfold M49_4 at ha
    split at ha
    · rename_i hs
      cases ha
      have hk := via_pat hs ((e49_4_0 re rk (F77_0 re rk N) (F51_0 re rk N) (F66_0 re rk N) (L49_4_0 re rk N n) _ _ _ _ _ _ _ _ kk).trans hr)
      exact round_ok (show SndAll Try.prog Hn [(77, M77_0 (F77_0 re rk N)), (51, M51_0 (F51_0 re rk N)), (66, M66_0 (F66_0 re rk N))] from ⟨o77_0 N, o51_0 N, o66_0 N, trivial⟩) (spots := []) (by kernel_rfl) trivial ih (hd := clean ((Hn 49).lp 4).1 s) (by rw [i49_4]) hk
    · cases ha
def G105_0 {β : Type} (A : Pr) (B : Pk) (x0 x1 : Int) (k0 : KI β) : Option β :=
    match (A.cm .lss x1 1) with
    | true => (k0 0)
    | false => (match (A.nz x1) with
      | true => none
      | false => (match (A.nz x1) with
        | true => none
        | false => (match (A.cm .lss (A.ar .rem .i64 x0 x1) 0) with
          | true => (k0 (A.ar .sub .i64 (A.ar .quo .i64 x0 x1) 1))
          | false => (k0 (A.ar .quo .i64 x0 x1)))))
def F105_0 {β : Type} (A : Pr) (B : Pk) (N : Nat) (x0 x1 : Int) (k0 : KI β) : Option β :=
  G105_0 A B  x0 x1 k0
def M105_0 {β : Type} (f105_0 : Int → Int → (KI β) → Option β) (a : List T) : Option ((T → List (List T) → Option β) → Option β) :=
  match gTs P2 a [] with
  | some [.i x0, .i x1] => some fun kk => f105_0 x0 x1 (fun x2 => kk (tI x2) [])
  | _ => none
theorem e105_0 {β : Type} (A : Pr) (B : Pk) (x0 x1 : Int) (kk : T → List (List T) → Option β) :
    uTs P2 [.i x0, .i x1] (fun a _ => bodyK (mkK Try.prog A B [] [] (Hn 105).pt []) Try.f105 a kk) = G105_0 A B  x0 x1 (fun x2 => kk (tI x2) []) := by kernel_rfl
theorem o105_0 {β : Type} (N : Nat) : Snd (β := β) Try.prog Hn 105 (M105_0 (F105_0 re rk N)) := by
  intro a h kk r ha hr
  unfold M105_0 at ha
  split at ha
  · rename_i hs
    cases ha
    have hk := via_pat hs ((e105_0 re rk  _ _ kk).trans hr)
    exact fn_ok (f := 105) (fn := Try.f105) (H := Hn) (by kernel_rfl) (show SndAll Try.prog Hn [] from trivial) (spots := []) (by kernel_rfl) trivial hk
  · cases ha
def G78_0 {β : Type} (A : Pr) (B : Pk) (f80_0 : Int → Int → (KI β) → Option β) (f105_0 : Int → Int → (KI β) → Option β) (x0 x1 x2 x3 x4 x5 : Int) (x6 : List R) (k0 : KI β) : Option β :=
    f80_0 x2 x4 (fun x7 =>
    f105_0 x0 x4 (fun x8 =>
      f80_0 x3 x5 (fun x9 =>
        f105_0 x1 x5 (fun xa =>
          k0 (A.ar .mul .i64 (A.ar .sub .i64 x7 x8) (A.ar .sub .i64 x9 xa))))))
def F78_0 {β : Type} (A : Pr) (B : Pk) (N : Nat) (x0 x1 x2 x3 x4 x5 : Int) (x6 : List R) (k0 : KI β) : Option β :=
  G78_0 A B (F80_0 A B N) (F105_0 A B N) x0 x1 x2 x3 x4 x5 x6 k0
def P7 : List PT := [(.r (.a [(.i .i64), (.i .i64), (.i .i64), (.i .i64), (.i .i64), (.i .i64), (.ro 4)]))]
def M78_0 {β : Type} (f78_0 : Int → Int → Int → Int → Int → Int → List R → (KI β) → Option β) (a : List T) : Option ((T → List (List T) → Option β) → Option β) :=
  match gTs P7 a [] with
  | some [.i x0, .i x1, .i x2, .i x3, .i x4, .i x5, .l x6] => some fun kk => f78_0 x0 x1 x2 x3 x4 x5 x6 (fun x7 => kk (tI x7) [])
  | _ => none
theorem e78_0 {β : Type} (A : Pr) (B : Pk) (f80_0 : Int → Int → (KI β) → Option β) (f105_0 : Int → Int → (KI β) → Option β) (x0 x1 x2 x3 x4 x5 : Int) (x6 : List R) (kk : T → List (List T) → Option β) :
    uTs P7 [.i x0, .i x1, .i x2, .i x3, .i x4, .i x5, .l x6] (fun a _ => bodyK (mkK Try.prog A B [(80, M80_0 f80_0), (105, M105_0 f105_0)] [] (Hn 78).pt []) Try.f78 a kk) = G78_0 A B f80_0 f105_0 x0 x1 x2 x3 x4 x5 x6 (fun x7 => kk (tI x7) []) := by kernel_rfl
theorem o78_0 {β : Type} (N : Nat) : Snd (β := β) Try.prog Hn 78 (M78_0 (F78_0 re rk N)) := by
  intro a h kk r ha hr
  unfold M78_0 at ha
  split at ha
  · rename_i hs
    cases ha
    have hk := via_pat hs ((e78_0 re rk (F80_0 re rk N) (F105_0 re rk N) _ _ _ _ _ _ _ kk).trans hr)
    exact fn_ok (f := 78) (fn := Try.f78) (H := Hn) (by kernel_rfl) (show SndAll Try.prog Hn [(80, M80_0 (F80_0 re rk N)), (105, M105_0 (F105_0 re rk N))] from ⟨o80_0 N, o105_0 N, trivial⟩) (spots := []) (by kernel_rfl) trivial hk
  · cases ha
def G79_0 {β : Type} (A : Pr) (B : Pk) (f65_0 : Int → Int → Int → Int → (KB β) → Option β) (x0 x1 x2 x3 : Int) (k0 : KI β) : Option β :=
    f65_0 x0 x1 x2 x3 (fun x4 =>
    match (A.bn x4) with
      | true => (k0 0)
      | false => (k0 (A.ar .mul .i64 (A.ar .sub .i64 x2 x0) (A.ar .sub .i64 x3 x1))))
def F79_0 {β : Type} (A : Pr) (B : Pk) (N : Nat) (x0 x1 x2 x3 : Int) (k0 : KI β) : Option β :=
  G79_0 A B (F65_0 A B N) x0 x1 x2 x3 k0
def M79_0 {β : Type} (f79_0 : Int → Int → Int → Int → (KI β) → Option β) (a : List T) : Option ((T → List (List T) → Option β) → Option β) :=
  match gTs P0 a [] with
  | some [.i x0, .i x1, .i x2, .i x3] => some fun kk => f79_0 x0 x1 x2 x3 (fun x4 => kk (tI x4) [])
  | _ => none
theorem e79_0 {β : Type} (A : Pr) (B : Pk) (f65_0 : Int → Int → Int → Int → (KB β) → Option β) (x0 x1 x2 x3 : Int) (kk : T → List (List T) → Option β) :
    uTs P0 [.i x0, .i x1, .i x2, .i x3] (fun a _ => bodyK (mkK Try.prog A B [(65, M65_0 f65_0)] [] (Hn 79).pt []) Try.f79 a kk) = G79_0 A B f65_0 x0 x1 x2 x3 (fun x4 => kk (tI x4) []) := by kernel_rfl
theorem o79_0 {β : Type} (N : Nat) : Snd (β := β) Try.prog Hn 79 (M79_0 (F79_0 re rk N)) := by
  intro a h kk r ha hr
  unfold M79_0 at ha
  split at ha
  · rename_i hs
    cases ha
    have hk := via_pat hs ((e79_0 re rk (F65_0 re rk N) _ _ _ _ kk).trans hr)
    exact fn_ok (f := 79) (fn := Try.f79) (H := Hn) (by kernel_rfl) (show SndAll Try.prog Hn [(65, M65_0 (F65_0 re rk N))] from ⟨o65_0 N, trivial⟩) (spots := []) (by kernel_rfl) trivial hk
  · cases ha
noncomputable def X49_12 : Code := atF Try.f49 [true, true, true, true, false, true, false, false]
theorem i49_12 : firstReg X49_12 = 12 := by kernel_rfl
def GL49_12_0 {β : Type} (A : Pr) (B : Pk) (f51_0 : Int → Int → Int → Int → Int → Int → (K4 β) → Option β) (f79_0 : Int → Int → Int → Int → (KI β) → Option β) (l49_12_0 : (KI β) → (Option β) → Int → Int → Int → Int → Int → Int → List R → Int → Option β) (k0 : KI β) (k1 : Option β) (x0 x1 x2 x3 x4 x5 : Int) (x6 : List R) (x7 : Int) : Option β :=
    match (A.cm .lss x7 (A.on (A.len x6))) with
    | true => (match (A.ix x7 (A.len x6)) with
      | some x8 => (match (B.okE [(Sh.i .i64), Sh.b, (Sh.i .i64), (Sh.i .i64)] true x6 x8) with
        | true => (f51_0 x0 x1 x2 x3 (B.ci x6 x8 2) (B.ci x6 x8 3) (fun x9 xa xb xc =>
          f79_0 x9 xa xb xc (fun xd =>
            match (A.cm .gtr xd 1048576) with
              | true => (k0 5)
              | false => (l49_12_0 k0 k1 x0 x1 x2 x3 x4 x5 x6 (A.ar .add .i64 x7 1)))))
        | false => none)
      | none => none)
    | false => k1
def L49_12_0 {β : Type} (A : Pr) (B : Pk) (N : Nat) : Nat → (KI β) → (Option β) → Int → Int → Int → Int → Int → Int → List R → Int → Option β
  | 0, _, _, _, _, _, _, _, _, _, _ => none
  | n + 1, k0, k1, x0, x1, x2, x3, x4, x5, x6, x7 =>
    GL49_12_0 A B (F51_0 A B N) (F79_0 A B N) (L49_12_0 A B N n) k0 k1 x0 x1 x2 x3 x4 x5 x6 x7
def P8 : List PT := [.us 2, pI, .us 94]
def S8 (x0 : Int) : List T := (T.u :: T.u :: (tI x0) :: T.u :: T.u :: T.u :: T.u :: T.u :: T.u :: T.u :: T.u :: T.u :: T.u :: T.u :: T.u :: T.u :: T.u :: T.u :: T.u :: T.u :: T.u :: T.u :: T.u :: T.u :: T.u :: T.u :: T.u :: T.u :: T.u :: T.u :: T.u :: T.u :: T.u :: T.u :: T.u :: T.u :: T.u :: T.u :: T.u :: T.u :: T.u :: T.u :: T.u :: T.u :: T.u :: T.u :: T.u :: T.u :: T.u :: T.u :: T.u :: T.u :: T.u :: T.u :: T.u :: T.u :: T.u :: T.u :: T.u :: T.u :: T.u :: T.u :: T.u :: T.u :: T.u :: T.u :: T.u :: T.u :: T.u :: T.u :: T.u :: T.u :: T.u :: T.u :: T.u :: T.u :: T.u :: T.u :: T.u :: T.u :: T.u :: T.u :: T.u :: T.u :: T.u :: T.u :: T.u :: T.u :: T.u :: T.u :: T.u :: T.u :: T.u :: T.u :: T.u :: T.u :: T.u :: [])
def P9 : List PT := [.us 97]
def S9  : List T := (T.u :: T.u :: T.u :: T.u :: T.u :: T.u :: T.u :: T.u :: T.u :: T.u :: T.u :: T.u :: T.u :: T.u :: T.u :: T.u :: T.u :: T.u :: T.u :: T.u :: T.u :: T.u :: T.u :: T.u :: T.u :: T.u :: T.u :: T.u :: T.u :: T.u :: T.u :: T.u :: T.u :: T.u :: T.u :: T.u :: T.u :: T.u :: T.u :: T.u :: T.u :: T.u :: T.u :: T.u :: T.u :: T.u :: T.u :: T.u :: T.u :: T.u :: T.u :: T.u :: T.u :: T.u :: T.u :: T.u :: T.u :: T.u :: T.u :: T.u :: T.u :: T.u :: T.u :: T.u :: T.u :: T.u :: T.u :: T.u :: T.u :: T.u :: T.u :: T.u :: T.u :: T.u :: T.u :: T.u :: T.u :: T.u :: T.u :: T.u :: T.u :: T.u :: T.u :: T.u :: T.u :: T.u :: T.u :: T.u :: T.u :: T.u :: T.u :: T.u :: T.u :: T.u :: T.u :: T.u :: T.u :: [])
def P10 : List PT := [.us 1, (.bx [pI, pI, pI, pI, pI, pI, (.r (.ro 4))]), .us 3, pI, .us 91]
noncomputable def M49_12 {β : Type} (l49_12_0 : (KI β) → (Option β) → Int → Int → Int → Int → Int → Int → List R → Int → Option β) (s : List T) : Option ((Ex → List T → Option β) → Option β) :=
  match gTs P10 (clean ((Hn 49).lp 12).1 s) [] with
  | some [.i x0, .i x1, .i x2, .i x3, .i x4, .i x5, .l x6, .i x7] => some fun kk => l49_12_0 (fun x8 => kk Ex.rt (S8 x8)) (kk (Ex.ex 2) (S9)) x0 x1 x2 x3 x4 x5 x6 x7
  | _ => none
theorem e49_12_0 {β : Type} (A : Pr) (B : Pk) (f51_0 : Int → Int → Int → Int → Int → Int → (K4 β) → Option β) (f79_0 : Int → Int → Int → Int → (KI β) → Option β) (l49_12_0 : (KI β) → (Option β) → Int → Int → Int → Int → Int → Int → List R → Int → Option β) (x0 x1 x2 x3 x4 x5 : Int) (x6 : List R) (x7 : Int) (kk : Ex → List T → Option β) :
    uTs P10 [.i x0, .i x1, .i x2, .i x3, .i x4, .i x5, .l x6, .i x7] (fun s _ => evK (mkK Try.prog A B [(51, M51_0 f51_0), (79, M79_0 f79_0)] [] (Hn 49).pt []) X49_12 s (fun e s' => match e with
      | .nm => (match M49_12 l49_12_0 s' with | some h => h kk | none => none)
      | .ex m => kk (.ex m) (clean ((Hn 49).lp (firstReg X49_12)).2 s')
      | .rt => kk .rt (clean ((Hn 49).lp (firstReg X49_12)).2 s'))) = GL49_12_0 A B f51_0 f79_0 l49_12_0 (fun x8 => kk Ex.rt (S8 x8)) (kk (Ex.ex 2) (S9)) x0 x1 x2 x3 x4 x5 x6 x7 := by kernel_rfl
theorem ol49_12 {β : Type} (N : Nat) : ∀ n, SndL (β := β) Try.prog Hn (Hn 49) X49_12 (M49_12 (L49_12_0 re rk N n))
  | 0 => by
    intro s h kk r ha hr
    unfold M49_12 at ha
    split at ha
    · cases ha; cases hr
    · cases ha
  | n + 1 => by
    have ih := ol49_12 (β := β) N n
    intro s h kk r ha hr
    unfold M49_12 at ha
    split at ha
    · rename_i hs
      cases ha
      have hk := via_pat hs ((e49_12_0 re rk (F51_0 re rk N) (F79_0 re rk N) (L49_12_0 re rk N n) _ _ _ _ _ _ _ _ kk).trans hr)
      exact round_ok (show SndAll Try.prog Hn [(51, M51_0 (F51_0 re rk N)), (79, M79_0 (F79_0 re rk N))] from ⟨o51_0 N, o79_0 N, trivial⟩) (spots := []) (by kernel_rfl) trivial ih (hd := clean ((Hn 49).lp 12).1 s) (by rw [i49_12]) hk
    · cases ha
def G49_0 {β : Type} (A : Pr) (B : Pk) (f65_0 : Int → Int → Int → Int → (KB β) → Option β) (f66_0 : Int → Int → Int → Int → (KB β) → Option β) (f77_0 : Int → Int → Int → (KB β) → Option β) (f78_0 : Int → Int → Int → Int → Int → Int → List R → (KI β) → Option β) (l49_4_0 : (Int → Int → Int → Int → Int → Int → List R → Int → Option β) → (Int → Int → Int → Int → Int → Int → List R → Option β) → Int → Int → Int → Int → Int → Int → List R → Int → Option β) (l49_12_0 : (KI β) → (Option β) → Int → Int → Int → Int → Int → Int → List R → Int → Option β) (x0 x1 x2 x3 x4 x5 : Int) (x6 : List R) (k0 : KI β) : Option β :=
    f65_0 x0 x1 x2 x3 (fun x7 =>
    match (A.bn x7) with
      | true => (k0 12)
      | false => (f66_0 x0 x1 x2 x3 (fun x8 =>
        match x8 with
          | true => (k0 12)
          | false => (f77_0 x4 1 4096 (fun x9 =>
            match (A.bn x9) with
              | true => (k0 12)
              | false => (f77_0 x5 1 4096 (fun xa =>
                match (A.bn xa) with
                  | true => (k0 12)
                  | false => (f77_0 (A.on (A.len x6)) 1 4 (fun xb =>
                    match (A.bn xb) with
                      | true => (k0 12)
                      | false => (l49_4_0 (fun xc xd xe xf xg xh xi xj =>
                        k0 xj) (fun xk xl xm xn xo xp xq =>
                        f78_0 xk xl xm xn xo xp xq (fun xr =>
                          match (A.cm .gtr xr 1024) with
                            | true => (k0 5)
                            | false => (l49_12_0 (fun xs =>
                              k0 xs) (k0 0) xk xl xm xn xo xp xq 0))) x0 x1 x2 x3 x4 x5 x6 0))))))))))
def F49_0 {β : Type} (A : Pr) (B : Pk) (N : Nat) (x0 x1 x2 x3 x4 x5 : Int) (x6 : List R) (k0 : KI β) : Option β :=
  G49_0 A B (F65_0 A B N) (F66_0 A B N) (F77_0 A B N) (F78_0 A B N) (L49_4_0 A B N N) (L49_12_0 A B N N) x0 x1 x2 x3 x4 x5 x6 k0
def M49_0 {β : Type} (f49_0 : Int → Int → Int → Int → Int → Int → List R → (KI β) → Option β) (a : List T) : Option ((T → List (List T) → Option β) → Option β) :=
  match gTs P7 a [] with
  | some [.i x0, .i x1, .i x2, .i x3, .i x4, .i x5, .l x6] => some fun kk => f49_0 x0 x1 x2 x3 x4 x5 x6 (fun x7 => kk (tI x7) [])
  | _ => none
theorem e49_0 {β : Type} (A : Pr) (B : Pk) (f65_0 : Int → Int → Int → Int → (KB β) → Option β) (f66_0 : Int → Int → Int → Int → (KB β) → Option β) (f77_0 : Int → Int → Int → (KB β) → Option β) (f78_0 : Int → Int → Int → Int → Int → Int → List R → (KI β) → Option β) (l49_4_0 : (Int → Int → Int → Int → Int → Int → List R → Int → Option β) → (Int → Int → Int → Int → Int → Int → List R → Option β) → Int → Int → Int → Int → Int → Int → List R → Int → Option β) (l49_12_0 : (KI β) → (Option β) → Int → Int → Int → Int → Int → Int → List R → Int → Option β) (x0 x1 x2 x3 x4 x5 : Int) (x6 : List R) (kk : T → List (List T) → Option β) :
    uTs P7 [.i x0, .i x1, .i x2, .i x3, .i x4, .i x5, .l x6] (fun a _ => bodyK (mkK Try.prog A B [(65, M65_0 f65_0), (66, M66_0 f66_0), (77, M77_0 f77_0), (78, M78_0 f78_0)] [(4, M49_4 l49_4_0), (12, M49_12 l49_12_0)] (Hn 49).pt []) Try.f49 a kk) = G49_0 A B f65_0 f66_0 f77_0 f78_0 l49_4_0 l49_12_0 x0 x1 x2 x3 x4 x5 x6 (fun x7 => kk (tI x7) []) := by kernel_rfl
theorem o49_0 {β : Type} (N : Nat) : Snd (β := β) Try.prog Hn 49 (M49_0 (F49_0 re rk N)) := by
  intro a h kk r ha hr
  unfold M49_0 at ha
  split at ha
  · rename_i hs
    cases ha
    have hk := via_pat hs ((e49_0 re rk (F65_0 re rk N) (F66_0 re rk N) (F77_0 re rk N) (F78_0 re rk N) (L49_4_0 re rk N N) (L49_12_0 re rk N N) _ _ _ _ _ _ _ kk).trans hr)
    exact fn_ok (f := 49) (fn := Try.f49) (H := Hn) (by kernel_rfl) (show SndAll Try.prog Hn [(65, M65_0 (F65_0 re rk N)), (66, M66_0 (F66_0 re rk N)), (77, M77_0 (F77_0 re rk N)), (78, M78_0 (F78_0 re rk N))] from ⟨o65_0 N, o66_0 N, o77_0 N, o78_0 N, trivial⟩) (spots := [.lp X49_4, .lp X49_12]) (by kernel_rfl) ⟨cut_lp (id := 4) i49_4 (ol49_4 N N) (fun s kk => by kernel_rfl), cut_lp (id := 12) i49_12 (ol49_12 N N) (fun s kk => by kernel_rfl), trivial⟩ hk
  · cases ha
def G64_0 {β : Type} (A : Pr) (B : Pk) (f66_0 : Int → Int → Int → Int → (KB β) → Option β) (x0 x1 x2 x3 x4 x5 x6 x7 : Int) (k0 : K4 β) : Option β :=
    f66_0 (A.mx x0 x4) (A.mx x1 x5) (A.mn x2 x6) (A.mn x3 x7) (fun x8 =>
    match x8 with
      | true => (k0 0 0 0 0)
      | false => (k0 (A.mx x0 x4) (A.mx x1 x5) (A.mn x2 x6) (A.mn x3 x7)))
def F64_0 {β : Type} (A : Pr) (B : Pk) (N : Nat) (x0 x1 x2 x3 x4 x5 x6 x7 : Int) (k0 : K4 β) : Option β :=
  G64_0 A B (F66_0 A B N) x0 x1 x2 x3 x4 x5 x6 x7 k0
def P11 : List PT := [(.r (.a [(.i .i64), (.i .i64), (.i .i64), (.i .i64)])), (.r (.a [(.i .i64), (.i .i64), (.i .i64), (.i .i64)]))]
def M64_0 {β : Type} (f64_0 : Int → Int → Int → Int → Int → Int → Int → Int → (K4 β) → Option β) (a : List T) : Option ((T → List (List T) → Option β) → Option β) :=
  match gTs P11 a [] with
  | some [.i x0, .i x1, .i x2, .i x3, .i x4, .i x5, .i x6, .i x7] => some fun kk => f64_0 x0 x1 x2 x3 x4 x5 x6 x7 (fun x8 x9 xa xb => kk (T.r (R.a [(R.i .i64 x8), (R.i .i64 x9), (R.i .i64 xa), (R.i .i64 xb)])) [])
  | _ => none
theorem e64_0 {β : Type} (A : Pr) (B : Pk) (f66_0 : Int → Int → Int → Int → (KB β) → Option β) (x0 x1 x2 x3 x4 x5 x6 x7 : Int) (kk : T → List (List T) → Option β) :
    uTs P11 [.i x0, .i x1, .i x2, .i x3, .i x4, .i x5, .i x6, .i x7] (fun a _ => bodyK (mkK Try.prog A B [(66, M66_0 f66_0)] [] (Hn 64).pt []) Try.f64 a kk) = G64_0 A B f66_0 x0 x1 x2 x3 x4 x5 x6 x7 (fun x8 x9 xa xb => kk (T.r (R.a [(R.i .i64 x8), (R.i .i64 x9), (R.i .i64 xa), (R.i .i64 xb)])) []) := by kernel_rfl
theorem o64_0 {β : Type} (N : Nat) : Snd (β := β) Try.prog Hn 64 (M64_0 (F64_0 re rk N)) := by
  intro a h kk r ha hr
  unfold M64_0 at ha
  split at ha
  · rename_i hs
    cases ha
    have hk := via_pat hs ((e64_0 re rk (F66_0 re rk N) _ _ _ _ _ _ _ _ kk).trans hr)
    exact fn_ok (f := 64) (fn := Try.f64) (H := Hn) (by kernel_rfl) (show SndAll Try.prog Hn [(66, M66_0 (F66_0 re rk N))] from ⟨o66_0 N, trivial⟩) (spots := []) (by kernel_rfl) trivial hk
  · cases ha
noncomputable def X88_14 : Code := atF Try.f88 [true, true, true, true, true, true, true, true, false, true, false, false, true, false, false, true, false, false]
theorem i88_14 : firstReg X88_14 = 14 := by kernel_rfl
def GL88_14_0 {β : Type} (A : Pr) (B : Pk) (f64_0 : Int → Int → Int → Int → Int → Int → Int → Int → (K4 β) → Option β) (l88_14_0 : (Q0 β) → Q1 β) (k0 : Q0 β) (x0 x1 x2 x3 x4 x5 x6 x7 x8 : Int) (x9 : List R) (xa xb : Int) : Option β :=
    match (A.cm .lss xb x7) with
    | true => (f64_0 x2 x3 x4 x5 (A.ar .mul .i64 xb x0) (A.ar .mul .i64 xa x1) (A.ar .add .i64 (A.ar .mul .i64 xb x0) x0) (A.ar .add .i64 (A.ar .mul .i64 xa x1) x1) (fun xc xd xe xf =>
      match (A.small (A.len (A.app x9 [(R.a [(R.i .i64 xc), (R.i .i64 xd), (R.i .i64 xe), (R.i .i64 xf)])])) 32) with
        | true => (l88_14_0 k0 x0 x1 x2 x3 x4 x5 x6 x7 x8 (A.app x9 [(R.a [(R.i .i64 xc), (R.i .i64 xd), (R.i .i64 xe), (R.i .i64 xf)])]) xa (A.ar .add .i64 xb 1))
        | false => none))
    | false => (k0 x0 x1 x2 x3 x4 x5 x6 x7 x8 x9 xa)
def L88_14_0 {β : Type} (A : Pr) (B : Pk) (N : Nat) : Nat → (Q0 β) → Q1 β
  | 0, _, _, _, _, _, _, _, _, _, _, _, _, _ => none
  | n + 1, k0, x0, x1, x2, x3, x4, x5, x6, x7, x8, x9, xa, xb =>
    GL88_14_0 A B (F64_0 A B N) (L88_14_0 A B N n) k0 x0 x1 x2 x3 x4 x5 x6 x7 x8 x9 xa xb
def P12 : List PT := [.us 1, pI, pI, (.bx [pI, pI, pI, pI]), .us 3, pI, pI, .us 1, pI, (.own true 4), pI, .us 75]
def S12 (x0 x1 x2 x3 x4 x5 x6 x7 x8 : Int) (x9 : List R) (xa : Int) : List T := (T.u :: (tI x0) :: (tI x1) :: (T.bx [(tI x2), (tI x3), (tI x4), (tI x5)]) :: T.u :: T.u :: T.u :: (tI x6) :: (tI x7) :: T.u :: (tI x8) :: (T.own true 4 x9) :: (tI xa) :: T.u :: T.u :: T.u :: T.u :: T.u :: T.u :: T.u :: T.u :: T.u :: T.u :: T.u :: T.u :: T.u :: T.u :: T.u :: T.u :: T.u :: T.u :: T.u :: T.u :: T.u :: T.u :: T.u :: T.u :: T.u :: T.u :: T.u :: T.u :: T.u :: T.u :: T.u :: T.u :: T.u :: T.u :: T.u :: T.u :: T.u :: T.u :: T.u :: T.u :: T.u :: T.u :: T.u :: T.u :: T.u :: T.u :: T.u :: T.u :: T.u :: T.u :: T.u :: T.u :: T.u :: T.u :: T.u :: T.u :: T.u :: T.u :: T.u :: T.u :: T.u :: T.u :: T.u :: T.u :: T.u :: T.u :: T.u :: T.u :: T.u :: T.u :: T.u :: T.u :: T.u :: T.u :: T.u :: [])
def P13 : List PT := [.us 1, pI, pI, (.bx [pI, pI, pI, pI]), .us 3, pI, pI, .us 1, pI, (.own true 4), pI, pI, .us 74]
noncomputable def M88_14 {β : Type} (l88_14_0 : (Q0 β) → Q1 β) (s : List T) : Option ((Ex → List T → Option β) → Option β) :=
  match gTs P13 (clean ((Hn 88).lp 14).1 s) [] with
  | some [.i x0, .i x1, .i x2, .i x3, .i x4, .i x5, .i x6, .i x7, .i x8, .l x9, .i xa, .i xb] => some fun kk => l88_14_0 (fun xc xd xe xf xg xh xi xj xk xl xm => kk (Ex.ex 2) (S12 xc xd xe xf xg xh xi xj xk xl xm)) x0 x1 x2 x3 x4 x5 x6 x7 x8 x9 xa xb
  | _ => none
theorem e88_14_0 {β : Type} (A : Pr) (B : Pk) (f64_0 : Int → Int → Int → Int → Int → Int → Int → Int → (K4 β) → Option β) (l88_14_0 : (Q0 β) → Q1 β) (x0 x1 x2 x3 x4 x5 x6 x7 x8 : Int) (x9 : List R) (xa xb : Int) (kk : Ex → List T → Option β) :
    uTs P13 [.i x0, .i x1, .i x2, .i x3, .i x4, .i x5, .i x6, .i x7, .i x8, .l x9, .i xa, .i xb] (fun s _ => evK (mkK Try.prog A B [(64, M64_0 f64_0)] [] (Hn 88).pt []) X88_14 s (fun e s' => match e with
      | .nm => (match M88_14 l88_14_0 s' with | some h => h kk | none => none)
      | .ex m => kk (.ex m) (clean ((Hn 88).lp (firstReg X88_14)).2 s')
      | .rt => kk .rt (clean ((Hn 88).lp (firstReg X88_14)).2 s'))) = GL88_14_0 A B f64_0 l88_14_0 (fun xc xd xe xf xg xh xi xj xk xl xm => kk (Ex.ex 2) (S12 xc xd xe xf xg xh xi xj xk xl xm)) x0 x1 x2 x3 x4 x5 x6 x7 x8 x9 xa xb := by kernel_rfl
theorem ol88_14 {β : Type} (N : Nat) : ∀ n, SndL (β := β) Try.prog Hn (Hn 88) X88_14 (M88_14 (L88_14_0 re rk N n))
  | 0 => by
    intro s h kk r ha hr
    unfold M88_14 at ha
    split at ha
    · cases ha; cases hr
    · cases ha
  | n + 1 => by
    have ih := ol88_14 (β := β) N n
    intro s h kk r ha hr
    unfold M88_14 at ha
    split at ha
    · rename_i hs
      cases ha
      have hk := via_pat hs ((e88_14_0 re rk (F64_0 re rk N) (L88_14_0 re rk N n) _ _ _ _ _ _ _ _ _ _ _ _ kk).trans hr)
      exact round_ok (show SndAll Try.prog Hn [(64, M64_0 (F64_0 re rk N))] from ⟨o64_0 N, trivial⟩) (spots := []) (by kernel_rfl) trivial ih (hd := clean ((Hn 88).lp 14).1 s) (by rw [i88_14]) hk
    · cases ha
noncomputable def X88_11 : Code := atF Try.f88 [true, true, true, true, true, true, true, true, false, true, false, false]
theorem i88_11 : firstReg X88_11 = 11 := by kernel_rfl
def GL88_11_0 {β : Type} (A : Pr) (B : Pk) (l88_14_0 : (Q0 β) → Q1 β) (l88_11_0 : (Int → Int → List R → Option β) → Q0 β) (k0 : Int → Int → List R → Option β) (x0 x1 x2 x3 x4 x5 x6 x7 x8 : Int) (x9 : List R) (xa : Int) : Option β :=
    match (A.cm .lss xa x8) with
    | true => (l88_14_0 (fun xb xc xd xe xf xg xh xi xj xk xl =>
      l88_11_0 k0 xb xc xd xe xf xg xh xi xj xk (A.ar .add .i64 xl 1)) x0 x1 x2 x3 x4 x5 x6 x7 x8 x9 xa x6)
    | false => (k0 x0 x1 x9)
def L88_11_0 {β : Type} (A : Pr) (B : Pk) (N : Nat) : Nat → (Int → Int → List R → Option β) → Q0 β
  | 0, _, _, _, _, _, _, _, _, _, _, _, _ => none
  | n + 1, k0, x0, x1, x2, x3, x4, x5, x6, x7, x8, x9, xa =>
    GL88_11_0 A B (L88_14_0 A B N N) (L88_11_0 A B N n) k0 x0 x1 x2 x3 x4 x5 x6 x7 x8 x9 xa
def P14 : List PT := [.us 1, pI, pI, .us 8, (.own true 4), .us 76]
def S14 (x0 x1 : Int) (x2 : List R) : List T := (T.u :: (tI x0) :: (tI x1) :: T.u :: T.u :: T.u :: T.u :: T.u :: T.u :: T.u :: T.u :: (T.own true 4 x2) :: T.u :: T.u :: T.u :: T.u :: T.u :: T.u :: T.u :: T.u :: T.u :: T.u :: T.u :: T.u :: T.u :: T.u :: T.u :: T.u :: T.u :: T.u :: T.u :: T.u :: T.u :: T.u :: T.u :: T.u :: T.u :: T.u :: T.u :: T.u :: T.u :: T.u :: T.u :: T.u :: T.u :: T.u :: T.u :: T.u :: T.u :: T.u :: T.u :: T.u :: T.u :: T.u :: T.u :: T.u :: T.u :: T.u :: T.u :: T.u :: T.u :: T.u :: T.u :: T.u :: T.u :: T.u :: T.u :: T.u :: T.u :: T.u :: T.u :: T.u :: T.u :: T.u :: T.u :: T.u :: T.u :: T.u :: T.u :: T.u :: T.u :: T.u :: T.u :: T.u :: T.u :: T.u :: T.u :: T.u :: [])
noncomputable def M88_11 {β : Type} (l88_11_0 : (Int → Int → List R → Option β) → Q0 β) (s : List T) : Option ((Ex → List T → Option β) → Option β) :=
  match gTs P12 (clean ((Hn 88).lp 11).1 s) [] with
  | some [.i x0, .i x1, .i x2, .i x3, .i x4, .i x5, .i x6, .i x7, .i x8, .l x9, .i xa] => some fun kk => l88_11_0 (fun xb xc xd => kk (Ex.ex 0) (S14 xb xc xd)) x0 x1 x2 x3 x4 x5 x6 x7 x8 x9 xa
  | _ => none
theorem e88_11_0 {β : Type} (A : Pr) (B : Pk) (l88_14_0 : (Q0 β) → Q1 β) (l88_11_0 : (Int → Int → List R → Option β) → Q0 β) (x0 x1 x2 x3 x4 x5 x6 x7 x8 : Int) (x9 : List R) (xa : Int) (kk : Ex → List T → Option β) :
    uTs P12 [.i x0, .i x1, .i x2, .i x3, .i x4, .i x5, .i x6, .i x7, .i x8, .l x9, .i xa] (fun s _ => evK (mkK Try.prog A B [] [(14, M88_14 l88_14_0)] (Hn 88).pt []) X88_11 s (fun e s' => match e with
      | .nm => (match M88_11 l88_11_0 s' with | some h => h kk | none => none)
      | .ex m => kk (.ex m) (clean ((Hn 88).lp (firstReg X88_11)).2 s')
      | .rt => kk .rt (clean ((Hn 88).lp (firstReg X88_11)).2 s'))) = GL88_11_0 A B l88_14_0 l88_11_0 (fun xb xc xd => kk (Ex.ex 0) (S14 xb xc xd)) x0 x1 x2 x3 x4 x5 x6 x7 x8 x9 xa := by kernel_rfl
theorem ol88_11 {β : Type} (N : Nat) : ∀ n, SndL (β := β) Try.prog Hn (Hn 88) X88_11 (M88_11 (L88_11_0 re rk N n))
  | 0 => by
    intro s h kk r ha hr
    unfold M88_11 at ha
    split at ha
    · cases ha; cases hr
    · cases ha
  | n + 1 => by
    have ih := ol88_11 (β := β) N n
    intro s h kk r ha hr
    unfold M88_11 at ha
    split at ha
    · rename_i hs
      cases ha
      have hk := via_pat hs ((e88_11_0 re rk (L88_14_0 re rk N N) (L88_11_0 re rk N n) _ _ _ _ _ _ _ _ _ _ _ kk).trans hr)
      exact round_ok (show SndAll Try.prog Hn [] from trivial) (spots := [.lp X88_14]) (by kernel_rfl) ⟨cut_lp (id := 14) i88_14 (ol88_14 N N) (fun s kk => by kernel_rfl), trivial⟩ ih (hd := clean ((Hn 88).lp 11).1 s) (by rw [i88_11]) hk
    · cases ha
def G88_0 {β : Type} (A : Pr) (B : Pk) (f65_0 : Int → Int → Int → Int → (KB β) → Option β) (f66_0 : Int → Int → Int → Int → (KB β) → Option β) (f105_0 : Int → Int → (KI β) → Option β) (f80_0 : Int → Int → (KI β) → Option β) (l88_11_0 : (Int → Int → List R → Option β) → Q0 β) (x0 x1 x2 x3 x4 x5 : Int) (k0 : KL β) : Option β :=
    f65_0 x0 x1 x2 x3 (fun x6 =>
    match (A.bn x6) with
      | true => (k0 [])
      | false => (f66_0 x0 x1 x2 x3 (fun x7 =>
        match x7 with
          | true => (k0 [])
          | false => (match (A.cm .lss x4 1) with
            | true => (k0 [])
            | false => (match (A.cm .lss x5 1) with
              | true => (k0 [])
              | false => (f105_0 x0 x4 (fun x8 =>
                f80_0 x2 x4 (fun x9 =>
                  f105_0 x1 x5 (fun xa =>
                    f80_0 x3 x5 (fun xb =>
                      match (A.cm .gtr (A.ar .mul .i64 (A.ar .sub .i64 x9 x8) (A.ar .sub .i64 xb xa)) 65536) with
                        | true => (k0 [])
                        | false => (l88_11_0 (fun xc xd xe =>
                          k0 xe) x4 x5 x0 x1 x2 x3 x8 x9 xb [] xa)))))))))))
def F88_0 {β : Type} (A : Pr) (B : Pk) (N : Nat) (x0 x1 x2 x3 x4 x5 : Int) (k0 : KL β) : Option β :=
  G88_0 A B (F65_0 A B N) (F66_0 A B N) (F105_0 A B N) (F80_0 A B N) (L88_11_0 A B N N) x0 x1 x2 x3 x4 x5 k0
def M88_0 {β : Type} (f88_0 : Int → Int → Int → Int → Int → Int → (KL β) → Option β) (a : List T) : Option ((T → List (List T) → Option β) → Option β) :=
  match gTs P3 a [] with
  | some [.i x0, .i x1, .i x2, .i x3, .i x4, .i x5] => some fun kk => f88_0 x0 x1 x2 x3 x4 x5 (fun x6 => kk (T.own true 4 x6) [])
  | _ => none
theorem e88_0 {β : Type} (A : Pr) (B : Pk) (f65_0 : Int → Int → Int → Int → (KB β) → Option β) (f66_0 : Int → Int → Int → Int → (KB β) → Option β) (f105_0 : Int → Int → (KI β) → Option β) (f80_0 : Int → Int → (KI β) → Option β) (l88_11_0 : (Int → Int → List R → Option β) → Q0 β) (x0 x1 x2 x3 x4 x5 : Int) (kk : T → List (List T) → Option β) :
    uTs P3 [.i x0, .i x1, .i x2, .i x3, .i x4, .i x5] (fun a _ => bodyK (mkK Try.prog A B [(65, M65_0 f65_0), (66, M66_0 f66_0), (105, M105_0 f105_0), (80, M80_0 f80_0)] [(11, M88_11 l88_11_0)] (Hn 88).pt []) Try.f88 a kk) = G88_0 A B f65_0 f66_0 f105_0 f80_0 l88_11_0 x0 x1 x2 x3 x4 x5 (fun x6 => kk (T.own true 4 x6) []) := by kernel_rfl
theorem o88_0 {β : Type} (N : Nat) : Snd (β := β) Try.prog Hn 88 (M88_0 (F88_0 re rk N)) := by
  intro a h kk r ha hr
  unfold M88_0 at ha
  split at ha
  · rename_i hs
    cases ha
    have hk := via_pat hs ((e88_0 re rk (F65_0 re rk N) (F66_0 re rk N) (F105_0 re rk N) (F80_0 re rk N) (L88_11_0 re rk N N) _ _ _ _ _ _ kk).trans hr)
    exact fn_ok (f := 88) (fn := Try.f88) (H := Hn) (by kernel_rfl) (show SndAll Try.prog Hn [(65, M65_0 (F65_0 re rk N)), (66, M66_0 (F66_0 re rk N)), (105, M105_0 (F105_0 re rk N)), (80, M80_0 (F80_0 re rk N))] from ⟨o65_0 N, o66_0 N, o105_0 N, o80_0 N, trivial⟩) (spots := [.lp X88_11]) (by kernel_rfl) ⟨cut_lp (id := 11) i88_11 (ol88_11 N N) (fun s kk => by kernel_rfl), trivial⟩ hk
  · cases ha
def G56_0 {β : Type} (A : Pr) (B : Pk) (f49_0 : Int → Int → Int → Int → Int → Int → List R → (KI β) → Option β) (f88_0 : Int → Int → Int → Int → Int → Int → (KL β) → Option β) (x0 x1 x2 x3 x4 x5 : Int) (x6 : List R) (k0 : KL β) : Option β :=
    f49_0 x0 x1 x2 x3 x4 x5 x6 (fun x7 =>
    match (A.cm .neq x7 0) with
      | true => (k0 [])
      | false => (f88_0 x0 x1 x2 x3 x4 x5 (fun x8 =>
        k0 x8)))
def F56_0 {β : Type} (A : Pr) (B : Pk) (N : Nat) (x0 x1 x2 x3 x4 x5 : Int) (x6 : List R) (k0 : KL β) : Option β :=
  G56_0 A B (F49_0 A B N) (F88_0 A B N) x0 x1 x2 x3 x4 x5 x6 k0
def M56_0 {β : Type} (f56_0 : Int → Int → Int → Int → Int → Int → List R → (KL β) → Option β) (a : List T) : Option ((T → List (List T) → Option β) → Option β) :=
  match gTs P7 a [] with
  | some [.i x0, .i x1, .i x2, .i x3, .i x4, .i x5, .l x6] => some fun kk => f56_0 x0 x1 x2 x3 x4 x5 x6 (fun x7 => kk (T.own true 4 x7) [])
  | _ => none
theorem e56_0 {β : Type} (A : Pr) (B : Pk) (f49_0 : Int → Int → Int → Int → Int → Int → List R → (KI β) → Option β) (f88_0 : Int → Int → Int → Int → Int → Int → (KL β) → Option β) (x0 x1 x2 x3 x4 x5 : Int) (x6 : List R) (kk : T → List (List T) → Option β) :
    uTs P7 [.i x0, .i x1, .i x2, .i x3, .i x4, .i x5, .l x6] (fun a _ => bodyK (mkK Try.prog A B [(49, M49_0 f49_0), (88, M88_0 f88_0)] [] (Hn 56).pt []) Try.f56 a kk) = G56_0 A B f49_0 f88_0 x0 x1 x2 x3 x4 x5 x6 (fun x7 => kk (T.own true 4 x7) []) := by kernel_rfl
theorem o56_0 {β : Type} (N : Nat) : Snd (β := β) Try.prog Hn 56 (M56_0 (F56_0 re rk N)) := by
  intro a h kk r ha hr
  unfold M56_0 at ha
  split at ha
  · rename_i hs
    cases ha
    have hk := via_pat hs ((e56_0 re rk (F49_0 re rk N) (F88_0 re rk N) _ _ _ _ _ _ _ kk).trans hr)
    exact fn_ok (f := 56) (fn := Try.f56) (H := Hn) (by kernel_rfl) (show SndAll Try.prog Hn [(49, M49_0 (F49_0 re rk N)), (88, M88_0 (F88_0 re rk N))] from ⟨o49_0 N, o88_0 N, trivial⟩) (spots := []) (by kernel_rfl) trivial hk
  · cases ha
def G89_0 {β : Type} (A : Pr) (B : Pk) (x0 x1 x2 x3 x4 x5 x6 : Int) (x7 x8 x9 xa xb xc xd xe : Bool) (xf xg : Int) (k0 : KB β) : Option β :=
    match (A.cm .geq x0 1) with
    | true => (match (A.cm .leq x0 3) with
      | true => (match (A.cm .geq x2 0) with
        | true => (match (A.cm .leq x2 2) with
          | true => (match (A.cm .geq x5 1) with
            | true => (k0 (A.cm .leq x5 5))
            | false => (k0 false))
          | false => (k0 false))
        | false => (k0 false))
      | false => (k0 false))
    | false => (k0 false)
def F89_0 {β : Type} (A : Pr) (B : Pk) (N : Nat) (x0 x1 x2 x3 x4 x5 x6 : Int) (x7 x8 x9 xa xb xc xd xe : Bool) (xf xg : Int) (k0 : KB β) : Option β :=
  G89_0 A B  x0 x1 x2 x3 x4 x5 x6 x7 x8 x9 xa xb xc xd xe xf xg k0
def P15 : List PT := [(.r (.a [(.i .i64), (.i .i64), (.i .i64), (.i .i64), (.i .i64), .sn, (.i .i64), (.i .i64), .b, .b, .b, .b, .b, .b, .b, .b, .sn, (.i .i64), (.i .i64)]))]
def M89_0 {β : Type} (f89_0 : Int → Int → Int → Int → Int → Int → Int → Bool → Bool → Bool → Bool → Bool → Bool → Bool → Bool → Int → Int → (KB β) → Option β) (a : List T) : Option ((T → List (List T) → Option β) → Option β) :=
  match gTs P15 a [] with
  | some [.i x0, .i x1, .i x2, .i x3, .i x4, .i x5, .i x6, .b x7, .b x8, .b x9, .b xa, .b xb, .b xc, .b xd, .b xe, .i xf, .i xg] => some fun kk => f89_0 x0 x1 x2 x3 x4 x5 x6 x7 x8 x9 xa xb xc xd xe xf xg (fun xh => kk (tB xh) [])
  | _ => none
theorem e89_0 {β : Type} (A : Pr) (B : Pk) (x0 x1 x2 x3 x4 x5 x6 : Int) (x7 x8 x9 xa xb xc xd xe : Bool) (xf xg : Int) (kk : T → List (List T) → Option β) :
    uTs P15 [.i x0, .i x1, .i x2, .i x3, .i x4, .i x5, .i x6, .b x7, .b x8, .b x9, .b xa, .b xb, .b xc, .b xd, .b xe, .i xf, .i xg] (fun a _ => bodyK (mkK Try.prog A B [] [] (Hn 89).pt []) Try.f89 a kk) = G89_0 A B  x0 x1 x2 x3 x4 x5 x6 x7 x8 x9 xa xb xc xd xe xf xg (fun xh => kk (tB xh) []) := by kernel_rfl
theorem o89_0 {β : Type} (N : Nat) : Snd (β := β) Try.prog Hn 89 (M89_0 (F89_0 re rk N)) := by
  intro a h kk r ha hr
  unfold M89_0 at ha
  split at ha
  · rename_i hs
    cases ha
    have hk := via_pat hs ((e89_0 re rk  _ _ _ _ _ _ _ _ _ _ _ _ _ _ _ _ _ kk).trans hr)
    exact fn_ok (f := 89) (fn := Try.f89) (H := Hn) (by kernel_rfl) (show SndAll Try.prog Hn [] from trivial) (spots := []) (by kernel_rfl) trivial hk
  · cases ha
def G57_0 {β : Type} (A : Pr) (B : Pk) (f49_0 : Int → Int → Int → Int → Int → Int → List R → (KI β) → Option β) (f89_0 : Int → Int → Int → Int → Int → Int → Int → Bool → Bool → Bool → Bool → Bool → Bool → Bool → Bool → Int → Int → (KB β) → Option β) (x0 x1 x2 x3 x4 x5 : Int) (x6 : List R) (x7 x8 x9 xa xb xc xd : Int) (xe xf xg xh xi xj xk xl : Bool) (xm xn : Int) (k0 : KI β) : Option β :=
    f49_0 x0 x1 x2 x3 x4 x5 x6 (fun xo =>
    match (A.cm .neq xo 0) with
      | true => (k0 xo)
      | false => (f89_0 x7 x8 x9 xa xb xc xd xe xf xg xh xi xj xk xl xm xn (fun xp =>
        match (A.bn xp) with
          | true => (k0 3)
          | false => none)))
def F57_0 {β : Type} (A : Pr) (B : Pk) (N : Nat) (x0 x1 x2 x3 x4 x5 : Int) (x6 : List R) (x7 x8 x9 xa xb xc xd : Int) (xe xf xg xh xi xj xk xl : Bool) (xm xn : Int) (k0 : KI β) : Option β :=
  G57_0 A B (F49_0 A B N) (F89_0 A B N) x0 x1 x2 x3 x4 x5 x6 x7 x8 x9 xa xb xc xd xe xf xg xh xi xj xk xl xm xn k0
def P16 : List PT := [(.r (.a [(.i .i64), (.i .i64), (.i .i64), (.i .i64), (.i .i64), (.i .i64), (.ro 4)])), (.r (.a [(.i .i64), (.i .i64), (.i .i64), (.i .i64), (.i .i64), .sn, (.i .i64), (.i .i64), .b, .b, .b, .b, .b, .b, .b, .b, .sn, (.i .i64), (.i .i64)]))]
def M57_0 {β : Type} (f57_0 : Int → Int → Int → Int → Int → Int → List R → Int → Int → Int → Int → Int → Int → Int → Bool → Bool → Bool → Bool → Bool → Bool → Bool → Bool → Int → Int → (KI β) → Option β) (a : List T) : Option ((T → List (List T) → Option β) → Option β) :=
  match gTs P16 a [] with
  | some [.i x0, .i x1, .i x2, .i x3, .i x4, .i x5, .l x6, .i x7, .i x8, .i x9, .i xa, .i xb, .i xc, .i xd, .b xe, .b xf, .b xg, .b xh, .b xi, .b xj, .b xk, .b xl, .i xm, .i xn] => some fun kk => f57_0 x0 x1 x2 x3 x4 x5 x6 x7 x8 x9 xa xb xc xd xe xf xg xh xi xj xk xl xm xn (fun xo => kk (tI xo) [])
  | _ => none
noncomputable def X57_13 : Code := atF Try.f57 [true, true, true, true, true, true, true, false, true, false, false]
theorem i57_13 : firstReg X57_13 = 13 := by kernel_rfl
theorem e57_0 {β : Type} (A : Pr) (B : Pk) (f49_0 : Int → Int → Int → Int → Int → Int → List R → (KI β) → Option β) (f89_0 : Int → Int → Int → Int → Int → Int → Int → Bool → Bool → Bool → Bool → Bool → Bool → Bool → Bool → Int → Int → (KB β) → Option β) (x0 x1 x2 x3 x4 x5 : Int) (x6 : List R) (x7 x8 x9 xa xb xc xd : Int) (xe xf xg xh xi xj xk xl : Bool) (xm xn : Int) (kk : T → List (List T) → Option β) :
    uTs P16 [.i x0, .i x1, .i x2, .i x3, .i x4, .i x5, .l x6, .i x7, .i x8, .i x9, .i xa, .i xb, .i xc, .i xd, .b xe, .b xf, .b xg, .b xh, .b xi, .b xj, .b xk, .b xl, .i xm, .i xn] (fun a _ => bodyK (mkK Try.prog A B [(49, M49_0 f49_0), (89, M89_0 f89_0)] [] (Hn 57).pt []) Try.f57 a kk) = G57_0 A B f49_0 f89_0 x0 x1 x2 x3 x4 x5 x6 x7 x8 x9 xa xb xc xd xe xf xg xh xi xj xk xl xm xn (fun xo => kk (tI xo) []) := by kernel_rfl
theorem o57_0 {β : Type} (N : Nat) : Snd (β := β) Try.prog Hn 57 (M57_0 (F57_0 re rk N)) := by
  intro a h kk r ha hr
  unfold M57_0 at ha
  split at ha
  · rename_i hs
    cases ha
    have hk := via_pat hs ((e57_0 re rk (F49_0 re rk N) (F89_0 re rk N) _ _ _ _ _ _ _ _ _ _ _ _ _ _ _ _ _ _ _ _ _ _ _ _ kk).trans hr)
    exact fn_ok (f := 57) (fn := Try.f57) (H := Hn) (by kernel_rfl) (show SndAll Try.prog Hn [(49, M49_0 (F49_0 re rk N)), (89, M89_0 (F89_0 re rk N))] from ⟨o49_0 N, o89_0 N, trivial⟩) (spots := [.lp X57_13]) (by kernel_rfl) ⟨no_lp (id := 13) i57_13 (fun s kk => by kernel_rfl), trivial⟩ hk
  · cases ha
noncomputable def X31_10 : Code := atF Try.f31 [true, true, true, true, true, false, true, false, false]
theorem i31_10 : firstReg X31_10 = 10 := by kernel_rfl
def GL31_10_0 {β : Type} (A : Pr) (B : Pk) (l31_10_0 : (Option β) → Q2 β) (k0 : Option β) (x0 x1 x2 x3 x4 x5 : Int) (x6 : List R) (x7 x8 x9 xa xb xc xd : Int) (xe xf xg xh xi xj xk xl : Bool) (xm xn xo xp : Int) : Option β :=
    match (A.cm .lss xp xo) with
    | true => none
    | false => k0
def L31_10_0 {β : Type} (A : Pr) (B : Pk) (N : Nat) : Nat → (Option β) → Q2 β
  | 0, _, _, _, _, _, _, _, _, _, _, _, _, _, _, _, _, _, _, _, _, _, _, _, _, _, _, _ => none
  | n + 1, k0, x0, x1, x2, x3, x4, x5, x6, x7, x8, x9, xa, xb, xc, xd, xe, xf, xg, xh, xi, xj, xk, xl, xm, xn, xo, xp =>
    GL31_10_0 A B (L31_10_0 A B N n) k0 x0 x1 x2 x3 x4 x5 x6 x7 x8 x9 xa xb xc xd xe xf xg xh xi xj xk xl xm xn xo xp
def P17 : List PT := [.us 65]
def S17  : List T := (T.u :: T.u :: T.u :: T.u :: T.u :: T.u :: T.u :: T.u :: T.u :: T.u :: T.u :: T.u :: T.u :: T.u :: T.u :: T.u :: T.u :: T.u :: T.u :: T.u :: T.u :: T.u :: T.u :: T.u :: T.u :: T.u :: T.u :: T.u :: T.u :: T.u :: T.u :: T.u :: T.u :: T.u :: T.u :: T.u :: T.u :: T.u :: T.u :: T.u :: T.u :: T.u :: T.u :: T.u :: T.u :: T.u :: T.u :: T.u :: T.u :: T.u :: T.u :: T.u :: T.u :: T.u :: T.u :: T.u :: T.u :: T.u :: T.u :: T.u :: T.u :: T.u :: T.u :: T.u :: T.u :: [])
def P18 : List PT := [.us 2, (.bx [pI, pI, pI, pI, pI, pI, (.r (.ro 4))]), (.bx [pI, pI, pI, pI, pI, (.r .sn), pI, pI, pB, pB, pB, pB, pB, pB, pB, pB, (.r .sn), pI, pI]), .us 51, pI, pI, .us 8]
noncomputable def M31_10 {β : Type} (l31_10_0 : (Option β) → Q2 β) (s : List T) : Option ((Ex → List T → Option β) → Option β) :=
  match gTs P18 (clean ((Hn 31).lp 10).1 s) [] with
  | some [.i x0, .i x1, .i x2, .i x3, .i x4, .i x5, .l x6, .i x7, .i x8, .i x9, .i xa, .i xb, .i xc, .i xd, .b xe, .b xf, .b xg, .b xh, .b xi, .b xj, .b xk, .b xl, .i xm, .i xn, .i xo, .i xp] => some fun kk => l31_10_0 (kk (Ex.ex 0) (S17)) x0 x1 x2 x3 x4 x5 x6 x7 x8 x9 xa xb xc xd xe xf xg xh xi xj xk xl xm xn xo xp
  | _ => none
theorem e31_10_0 {β : Type} (A : Pr) (B : Pk) (l31_10_0 : (Option β) → Q2 β) (x0 x1 x2 x3 x4 x5 : Int) (x6 : List R) (x7 x8 x9 xa xb xc xd : Int) (xe xf xg xh xi xj xk xl : Bool) (xm xn xo xp : Int) (kk : Ex → List T → Option β) :
    uTs P18 [.i x0, .i x1, .i x2, .i x3, .i x4, .i x5, .l x6, .i x7, .i x8, .i x9, .i xa, .i xb, .i xc, .i xd, .b xe, .b xf, .b xg, .b xh, .b xi, .b xj, .b xk, .b xl, .i xm, .i xn, .i xo, .i xp] (fun s _ => evK (mkK Try.prog A B [] [] (Hn 31).pt []) X31_10 s (fun e s' => match e with
      | .nm => (match M31_10 l31_10_0 s' with | some h => h kk | none => none)
      | .ex m => kk (.ex m) (clean ((Hn 31).lp (firstReg X31_10)).2 s')
      | .rt => kk .rt (clean ((Hn 31).lp (firstReg X31_10)).2 s'))) = GL31_10_0 A B l31_10_0 (kk (Ex.ex 0) (S17)) x0 x1 x2 x3 x4 x5 x6 x7 x8 x9 xa xb xc xd xe xf xg xh xi xj xk xl xm xn xo xp := by kernel_rfl
theorem ol31_10 {β : Type} (N : Nat) : ∀ n, SndL (β := β) Try.prog Hn (Hn 31) X31_10 (M31_10 (L31_10_0 re rk N n))
  | 0 => by
    intro s h kk r ha hr
    unfold M31_10 at ha
    split at ha
    · cases ha; cases hr
    · cases ha
  | n + 1 => by
    have ih := ol31_10 (β := β) N n
    intro s h kk r ha hr
    unfold M31_10 at ha
    split at ha
    · rename_i hs
      cases ha
      have hk := via_pat hs ((e31_10_0 re rk (L31_10_0 re rk N n) _ _ _ _ _ _ _ _ _ _ _ _ _ _ _ _ _ _ _ _ _ _ _ _ _ _ kk).trans hr)
      exact round_ok (show SndAll Try.prog Hn [] from trivial) (spots := []) (by kernel_rfl) trivial ih (hd := clean ((Hn 31).lp 10).1 s) (by rw [i31_10]) hk
    · cases ha
def G31_0 {β : Type} (A : Pr) (B : Pk) (f49_0 : Int → Int → Int → Int → Int → Int → List R → (KI β) → Option β) (f56_0 : Int → Int → Int → Int → Int → Int → List R → (KL β) → Option β) (f57_0 : Int → Int → Int → Int → Int → Int → List R → Int → Int → Int → Int → Int → Int → Int → Bool → Bool → Bool → Bool → Bool → Bool → Bool → Bool → Int → Int → (KI β) → Option β) (l31_10_0 : (Option β) → Q2 β) (x0 x1 x2 x3 x4 x5 : Int) (x6 : List R) (x7 x8 x9 xa xb xc xd : Int) (xe xf xg xh xi xj xk xl : Bool) (xm xn : Int) (k0 : KB β) : Option β :=
    match (A.cm .gtr (A.on (A.len x6)) 10) with
    | true => (k0 false)
    | false => (match (A.cm .gtr (A.on 0) 10) with
      | true => (k0 false)
      | false => (match (A.cm .gtr (A.on 0) 40) with
        | true => (k0 false)
        | false => (f49_0 x0 x1 x2 x3 x4 x5 x6 (fun xo =>
          match (A.cm .neq xo 0) with
            | true => (k0 true)
            | false => (match (A.cm .gtr (A.ar .sub .i64 x2 x0) 40) with
              | true => (k0 false)
              | false => (match (A.cm .gtr (A.ar .sub .i64 x3 x1) 40) with
                | true => (k0 false)
                | false => (f56_0 x0 x1 x2 x3 x4 x5 x6 (fun xp =>
                  match (A.cm .gtr (A.on (A.len xp)) 16) with
                    | true => (k0 false)
                    | false => (f57_0 x0 x1 x2 x3 x4 x5 x6 x7 x8 x9 xa xb xc xd xe xf xg xh xi xj xk xl xm xn (fun xq =>
                      match (A.cm .neq xq 0) with
                        | true => (k0 true)
                        | false => (f56_0 x0 x1 x2 x3 x4 x5 x6 (fun xr =>
                          l31_10_0 (k0 true) x0 x1 x2 x3 x4 x5 x6 x7 x8 x9 xa xb xc xd xe xf xg xh xi xj xk xl xm xn (A.on (A.len xr)) 0))))))))))))
def F31_0 {β : Type} (A : Pr) (B : Pk) (N : Nat) (x0 x1 x2 x3 x4 x5 : Int) (x6 : List R) (x7 x8 x9 xa xb xc xd : Int) (xe xf xg xh xi xj xk xl : Bool) (xm xn : Int) (k0 : KB β) : Option β :=
  G31_0 A B (F49_0 A B N) (F56_0 A B N) (F57_0 A B N) (L31_10_0 A B N N) x0 x1 x2 x3 x4 x5 x6 x7 x8 x9 xa xb xc xd xe xf xg xh xi xj xk xl xm xn k0
def M31_0 {β : Type} (f31_0 : Int → Int → Int → Int → Int → Int → List R → Int → Int → Int → Int → Int → Int → Int → Bool → Bool → Bool → Bool → Bool → Bool → Bool → Bool → Int → Int → (KB β) → Option β) (a : List T) : Option ((T → List (List T) → Option β) → Option β) :=
  match gTs P16 a [] with
  | some [.i x0, .i x1, .i x2, .i x3, .i x4, .i x5, .l x6, .i x7, .i x8, .i x9, .i xa, .i xb, .i xc, .i xd, .b xe, .b xf, .b xg, .b xh, .b xi, .b xj, .b xk, .b xl, .i xm, .i xn] => some fun kk => f31_0 x0 x1 x2 x3 x4 x5 x6 x7 x8 x9 xa xb xc xd xe xf xg xh xi xj xk xl xm xn (fun xo => kk (tB xo) [])
  | _ => none
theorem e31_0 {β : Type} (A : Pr) (B : Pk) (f49_0 : Int → Int → Int → Int → Int → Int → List R → (KI β) → Option β) (f56_0 : Int → Int → Int → Int → Int → Int → List R → (KL β) → Option β) (f57_0 : Int → Int → Int → Int → Int → Int → List R → Int → Int → Int → Int → Int → Int → Int → Bool → Bool → Bool → Bool → Bool → Bool → Bool → Bool → Int → Int → (KI β) → Option β) (l31_10_0 : (Option β) → Q2 β) (x0 x1 x2 x3 x4 x5 : Int) (x6 : List R) (x7 x8 x9 xa xb xc xd : Int) (xe xf xg xh xi xj xk xl : Bool) (xm xn : Int) (kk : T → List (List T) → Option β) :
    uTs P16 [.i x0, .i x1, .i x2, .i x3, .i x4, .i x5, .l x6, .i x7, .i x8, .i x9, .i xa, .i xb, .i xc, .i xd, .b xe, .b xf, .b xg, .b xh, .b xi, .b xj, .b xk, .b xl, .i xm, .i xn] (fun a _ => bodyK (mkK Try.prog A B [(49, M49_0 f49_0), (56, M56_0 f56_0), (57, M57_0 f57_0)] [(10, M31_10 l31_10_0)] (Hn 31).pt []) Try.f31 a kk) = G31_0 A B f49_0 f56_0 f57_0 l31_10_0 x0 x1 x2 x3 x4 x5 x6 x7 x8 x9 xa xb xc xd xe xf xg xh xi xj xk xl xm xn (fun xo => kk (tB xo) []) := by kernel_rfl
theorem o31_0 {β : Type} (N : Nat) : Snd (β := β) Try.prog Hn 31 (M31_0 (F31_0 re rk N)) := by
  intro a h kk r ha hr
  unfold M31_0 at ha
  split at ha
  · rename_i hs
    cases ha
    have hk := via_pat hs ((e31_0 re rk (F49_0 re rk N) (F56_0 re rk N) (F57_0 re rk N) (L31_10_0 re rk N N) _ _ _ _ _ _ _ _ _ _ _ _ _ _ _ _ _ _ _ _ _ _ _ _ kk).trans hr)
    exact fn_ok (f := 31) (fn := Try.f31) (H := Hn) (by kernel_rfl) (show SndAll Try.prog Hn [(49, M49_0 (F49_0 re rk N)), (56, M56_0 (F56_0 re rk N)), (57, M57_0 (F57_0 re rk N))] from ⟨o49_0 N, o56_0 N, o57_0 N, trivial⟩) (spots := [.lp X31_10]) (by kernel_rfl) ⟨cut_lp (id := 10) i31_10 (ol31_10 N N) (fun s kk => by kernel_rfl), trivial⟩ hk
  · cases ha
noncomputable def X22_4 : Code := atF Try.f22 [true, true, false, true, false, false]
theorem i22_4 : firstReg X22_4 = 4 := by kernel_rfl
def GL22_4_0 {β : Type} (A : Pr) (B : Pk) (l22_4_0 : (KB β) → (Option β) → List R → Int → Int → Option β) (k0 : KB β) (k1 : Option β) (x0 : List R) (x1 x2 : Int) : Option β :=
    match (A.cm .lss x2 x1) with
    | true => (match (A.ix x2 (A.len x0)) with
      | some x3 => (match (B.okE [(Sh.i .i64), (Sh.i .i64), (Sh.i .i64), (Sh.i .i64), (Sh.sl 1 (Sh.i .i64))] true x0 x3) with
        | true => (match (A.cm .gtr (A.on (A.len (B.cl x0 x3 4))) 1700) with
          | true => (k0 false)
          | false => (l22_4_0 k0 k1 x0 x1 (A.ar .add .i64 x2 1)))
        | false => none)
      | none => none)
    | false => k1
def L22_4_0 {β : Type} (A : Pr) (B : Pk) (N : Nat) : Nat → (KB β) → (Option β) → List R → Int → Int → Option β
  | 0, _, _, _, _, _ => none
  | n + 1, k0, k1, x0, x1, x2 =>
    GL22_4_0 A B (L22_4_0 A B N n) k0 k1 x0 x1 x2
def P19 : List PT := [.us 8, pB, .us 35]
def S19 (x0 : Bool) : List T := (T.u :: T.u :: T.u :: T.u :: T.u :: T.u :: T.u :: T.u :: (tB x0) :: T.u :: T.u :: T.u :: T.u :: T.u :: T.u :: T.u :: T.u :: T.u :: T.u :: T.u :: T.u :: T.u :: T.u :: T.u :: T.u :: T.u :: T.u :: T.u :: T.u :: T.u :: T.u :: T.u :: T.u :: T.u :: T.u :: T.u :: T.u :: T.u :: T.u :: T.u :: T.u :: T.u :: T.u :: T.u :: [])
def P20 : List PT := [.us 44]
def S20  : List T := (T.u :: T.u :: T.u :: T.u :: T.u :: T.u :: T.u :: T.u :: T.u :: T.u :: T.u :: T.u :: T.u :: T.u :: T.u :: T.u :: T.u :: T.u :: T.u :: T.u :: T.u :: T.u :: T.u :: T.u :: T.u :: T.u :: T.u :: T.u :: T.u :: T.u :: T.u :: T.u :: T.u :: T.u :: T.u :: T.u :: T.u :: T.u :: T.u :: T.u :: T.u :: T.u :: T.u :: T.u :: [])
def P21 : List PT := [.us 33, (.r (.ro 5)), pI, pI, .us 8]
noncomputable def M22_4 {β : Type} (l22_4_0 : (KB β) → (Option β) → List R → Int → Int → Option β) (s : List T) : Option ((Ex → List T → Option β) → Option β) :=
  match gTs P21 (clean ((Hn 22).lp 4).1 s) [] with
  | some [.l x0, .i x1, .i x2] => some fun kk => l22_4_0 (fun x3 => kk Ex.rt (S19 x3)) (kk (Ex.ex 0) (S20)) x0 x1 x2
  | _ => none
theorem e22_4_0 {β : Type} (A : Pr) (B : Pk) (l22_4_0 : (KB β) → (Option β) → List R → Int → Int → Option β) (x0 : List R) (x1 x2 : Int) (kk : Ex → List T → Option β) :
    uTs P21 [.l x0, .i x1, .i x2] (fun s _ => evK (mkK Try.prog A B [] [] (Hn 22).pt []) X22_4 s (fun e s' => match e with
      | .nm => (match M22_4 l22_4_0 s' with | some h => h kk | none => none)
      | .ex m => kk (.ex m) (clean ((Hn 22).lp (firstReg X22_4)).2 s')
      | .rt => kk .rt (clean ((Hn 22).lp (firstReg X22_4)).2 s'))) = GL22_4_0 A B l22_4_0 (fun x3 => kk Ex.rt (S19 x3)) (kk (Ex.ex 0) (S20)) x0 x1 x2 := by kernel_rfl
theorem ol22_4 {β : Type} (N : Nat) : ∀ n, SndL (β := β) Try.prog Hn (Hn 22) X22_4 (M22_4 (L22_4_0 re rk N n))
  | 0 => by
    intro s h kk r ha hr
    unfold M22_4 at ha
    split at ha
    · cases ha; cases hr
    · cases ha
  | n + 1 => by
    have ih := ol22_4 (β := β) N n
    intro s h kk r ha hr
    unfold M22_4 at ha
    split at ha
    · rename_i hs
      cases ha
      have hk := via_pat hs ((e22_4_0 re rk (L22_4_0 re rk N n) _ _ _ kk).trans hr)
      exact round_ok (show SndAll Try.prog Hn [] from trivial) (spots := []) (by kernel_rfl) trivial ih (hd := clean ((Hn 22).lp 4).1 s) (by rw [i22_4]) hk
    · cases ha
def G22_0 {β : Type} (A : Pr) (B : Pk) (f31_0 : Int → Int → Int → Int → Int → Int → List R → Int → Int → Int → Int → Int → Int → Int → Bool → Bool → Bool → Bool → Bool → Bool → Bool → Bool → Int → Int → (KB β) → Option β) (l22_4_0 : (KB β) → (Option β) → List R → Int → Int → Option β) (x0 x1 x2 x3 x4 x5 : Int) (x6 x7 : List R) (x8 x9 xa xb xc xd xe : Int) (xf xg xh xi xj xk xl xm : Bool) (xn xo : Int) (k0 : KB β) : Option β :=
    f31_0 x0 x1 x2 x3 x4 x5 x6 x8 x9 xa xb xc xd xe xf xg xh xi xj xk xl xm xn xo (fun xp =>
    match (A.bn xp) with
      | true => (k0 false)
      | false => (match (A.cm .gtr (A.on (A.len x7)) 10) with
        | true => (k0 false)
        | false => (match (A.cm .gtr (A.on 0) 10) with
          | true => (k0 false)
          | false => (match (A.cm .gtr (A.on 0) 20) with
            | true => (k0 false)
            | false => (l22_4_0 (fun xq =>
              k0 xq) (k0 true) x7 (A.on (A.len x7)) 0)))))
def F22_0 {β : Type} (A : Pr) (B : Pk) (N : Nat) (x0 x1 x2 x3 x4 x5 : Int) (x6 x7 : List R) (x8 x9 xa xb xc xd xe : Int) (xf xg xh xi xj xk xl xm : Bool) (xn xo : Int) (k0 : KB β) : Option β :=
  G22_0 A B (F31_0 A B N) (L22_4_0 A B N N) x0 x1 x2 x3 x4 x5 x6 x7 x8 x9 xa xb xc xd xe xf xg xh xi xj xk xl xm xn xo k0
def P22 : List PT := [(.r (.a [(.i .i64), (.i .i64), (.i .i64), (.i .i64), (.i .i64), (.i .i64), (.ro 4), (.ro 5)])), (.r (.a [(.i .i64), (.i .i64), (.i .i64), (.i .i64), (.i .i64), .sn, (.i .i64), (.i .i64), .b, .b, .b, .b, .b, .b, .b, .b, .sn, (.i .i64), (.i .i64)])), (.r .sn), (.r .sn)]
def M22_0 {β : Type} (f22_0 : Int → Int → Int → Int → Int → Int → List R → List R → Int → Int → Int → Int → Int → Int → Int → Bool → Bool → Bool → Bool → Bool → Bool → Bool → Bool → Int → Int → (KB β) → Option β) (a : List T) : Option ((T → List (List T) → Option β) → Option β) :=
  match gTs P22 a [] with
  | some [.i x0, .i x1, .i x2, .i x3, .i x4, .i x5, .l x6, .l x7, .i x8, .i x9, .i xa, .i xb, .i xc, .i xd, .i xe, .b xf, .b xg, .b xh, .b xi, .b xj, .b xk, .b xl, .b xm, .i xn, .i xo] => some fun kk => f22_0 x0 x1 x2 x3 x4 x5 x6 x7 x8 x9 xa xb xc xd xe xf xg xh xi xj xk xl xm xn xo (fun xp => kk (tB xp) [])
  | _ => none
theorem e22_0 {β : Type} (A : Pr) (B : Pk) (f31_0 : Int → Int → Int → Int → Int → Int → List R → Int → Int → Int → Int → Int → Int → Int → Bool → Bool → Bool → Bool → Bool → Bool → Bool → Bool → Int → Int → (KB β) → Option β) (l22_4_0 : (KB β) → (Option β) → List R → Int → Int → Option β) (x0 x1 x2 x3 x4 x5 : Int) (x6 x7 : List R) (x8 x9 xa xb xc xd xe : Int) (xf xg xh xi xj xk xl xm : Bool) (xn xo : Int) (kk : T → List (List T) → Option β) :
    uTs P22 [.i x0, .i x1, .i x2, .i x3, .i x4, .i x5, .l x6, .l x7, .i x8, .i x9, .i xa, .i xb, .i xc, .i xd, .i xe, .b xf, .b xg, .b xh, .b xi, .b xj, .b xk, .b xl, .b xm, .i xn, .i xo] (fun a _ => bodyK (mkK Try.prog A B [(31, M31_0 f31_0)] [(4, M22_4 l22_4_0)] (Hn 22).pt []) Try.f22 a kk) = G22_0 A B f31_0 l22_4_0 x0 x1 x2 x3 x4 x5 x6 x7 x8 x9 xa xb xc xd xe xf xg xh xi xj xk xl xm xn xo (fun xp => kk (tB xp) []) := by kernel_rfl
theorem o22_0 {β : Type} (N : Nat) : Snd (β := β) Try.prog Hn 22 (M22_0 (F22_0 re rk N)) := by
  intro a h kk r ha hr
  unfold M22_0 at ha
  split at ha
  · rename_i hs
    cases ha
    have hk := via_pat hs ((e22_0 re rk (F31_0 re rk N) (L22_4_0 re rk N N) _ _ _ _ _ _ _ _ _ _ _ _ _ _ _ _ _ _ _ _ _ _ _ _ _ kk).trans hr)
    exact fn_ok (f := 22) (fn := Try.f22) (H := Hn) (by kernel_rfl) (show SndAll Try.prog Hn [(31, M31_0 (F31_0 re rk N))] from ⟨o31_0 N, trivial⟩) (spots := [.lp X22_4]) (by kernel_rfl) ⟨cut_lp (id := 4) i22_4 (ol22_4 N N) (fun s kk => by kernel_rfl), trivial⟩ hk
  · cases ha
def G61_0 {β : Type} (A : Pr) (B : Pk) (x0 x1 x2 x3 : Int) (k0 : KB β) : Option β :=
    match (A.cm .leq 0 x0) with
    | true => (match (A.cm .leq x0 x2) with
      | true => (match (A.cm .leq x2 4096) with
        | true => (match (A.cm .leq 0 x1) with
          | true => (match (A.cm .leq x1 x3) with
            | true => (k0 (A.cm .leq x3 4096))
            | false => (k0 false))
          | false => (k0 false))
        | false => (k0 false))
      | false => (k0 false))
    | false => (k0 false)
def F61_0 {β : Type} (A : Pr) (B : Pk) (N : Nat) (x0 x1 x2 x3 : Int) (k0 : KB β) : Option β :=
  G61_0 A B  x0 x1 x2 x3 k0
def M61_0 {β : Type} (f61_0 : Int → Int → Int → Int → (KB β) → Option β) (a : List T) : Option ((T → List (List T) → Option β) → Option β) :=
  match gTs P0 a [] with
  | some [.i x0, .i x1, .i x2, .i x3] => some fun kk => f61_0 x0 x1 x2 x3 (fun x4 => kk (tB x4) [])
  | _ => none
theorem e61_0 {β : Type} (A : Pr) (B : Pk) (x0 x1 x2 x3 : Int) (kk : T → List (List T) → Option β) :
    uTs P0 [.i x0, .i x1, .i x2, .i x3] (fun a _ => bodyK (mkK Try.prog A B [] [] (Hn 61).pt []) Try.f61 a kk) = G61_0 A B  x0 x1 x2 x3 (fun x4 => kk (tB x4) []) := by kernel_rfl
theorem o61_0 {β : Type} (N : Nat) : Snd (β := β) Try.prog Hn 61 (M61_0 (F61_0 re rk N)) := by
  intro a h kk r ha hr
  unfold M61_0 at ha
  split at ha
  · rename_i hs
    cases ha
    have hk := via_pat hs ((e61_0 re rk  _ _ _ _ kk).trans hr)
    exact fn_ok (f := 61) (fn := Try.f61) (H := Hn) (by kernel_rfl) (show SndAll Try.prog Hn [] from trivial) (spots := []) (by kernel_rfl) trivial hk
  · cases ha
def G62_0 {β : Type} (A : Pr) (B : Pk) (x0 x1 x2 x3 : Int) (k0 : KB β) : Option β :=
    match (A.cm .geq x0 x2) with
    | true => (k0 true)
    | false => (k0 (A.cm .geq x1 x3))
def F62_0 {β : Type} (A : Pr) (B : Pk) (N : Nat) (x0 x1 x2 x3 : Int) (k0 : KB β) : Option β :=
  G62_0 A B  x0 x1 x2 x3 k0
def M62_0 {β : Type} (f62_0 : Int → Int → Int → Int → (KB β) → Option β) (a : List T) : Option ((T → List (List T) → Option β) → Option β) :=
  match gTs P0 a [] with
  | some [.i x0, .i x1, .i x2, .i x3] => some fun kk => f62_0 x0 x1 x2 x3 (fun x4 => kk (tB x4) [])
  | _ => none
theorem e62_0 {β : Type} (A : Pr) (B : Pk) (x0 x1 x2 x3 : Int) (kk : T → List (List T) → Option β) :
    uTs P0 [.i x0, .i x1, .i x2, .i x3] (fun a _ => bodyK (mkK Try.prog A B [] [] (Hn 62).pt []) Try.f62 a kk) = G62_0 A B  x0 x1 x2 x3 (fun x4 => kk (tB x4) []) := by kernel_rfl
theorem o62_0 {β : Type} (N : Nat) : Snd (β := β) Try.prog Hn 62 (M62_0 (F62_0 re rk N)) := by
  intro a h kk r ha hr
  unfold M62_0 at ha
  split at ha
  · rename_i hs
    cases ha
    have hk := via_pat hs ((e62_0 re rk  _ _ _ _ kk).trans hr)
    exact fn_ok (f := 62) (fn := Try.f62) (H := Hn) (by kernel_rfl) (show SndAll Try.prog Hn [] from trivial) (spots := []) (by kernel_rfl) trivial hk
  · cases ha
noncomputable def X72_2 : Code := atF Try.f72 [true, false, true, false, false]
theorem i72_2 : firstReg X72_2 = 2 := by kernel_rfl
def GL72_2_0 {β : Type} (A : Pr) (B : Pk) (l72_2_0 : (Int → Int → Bool → Option β) → (Int → Int → Option β) → Int → Int → List R → Int → Int → Option β) (k0 : Int → Int → Bool → Option β) (k1 : Int → Int → Option β) (x0 x1 : Int) (x2 : List R) (x3 x4 : Int) : Option β :=
    match (A.cm .lss x4 x3) with
    | true => (match (A.ix x4 (A.len x2)) with
      | some x5 => (match (B.okE [(Sh.i .i64)] false x2 x5) with
        | true => (match (A.cm .lss (B.ci x2 x5 0) x0) with
          | true => (k0 x0 x1 false)
          | false => (match (A.cm .gtr (B.ci x2 x5 0) x1) with
            | true => (k0 x0 x1 false)
            | false => (l72_2_0 k0 k1 x0 x1 x2 x3 (A.ar .add .i64 x4 1))))
        | false => none)
      | none => none)
    | false => (k1 x0 x1)
def L72_2_0 {β : Type} (A : Pr) (B : Pk) (N : Nat) : Nat → (Int → Int → Bool → Option β) → (Int → Int → Option β) → Int → Int → List R → Int → Int → Option β
  | 0, _, _, _, _, _, _, _ => none
  | n + 1, k0, k1, x0, x1, x2, x3, x4 =>
    GL72_2_0 A B (L72_2_0 A B N n) k0 k1 x0 x1 x2 x3 x4
def P23 : List PT := [pI, pI, .us 4, pB, .us 17]
def S23 (x0 x1 : Int) (x2 : Bool) : List T := [(tI x0), (tI x1), T.u, T.u, T.u, T.u, (tB x2), T.u, T.u, T.u, T.u, T.u, T.u, T.u, T.u, T.u, T.u, T.u, T.u, T.u, T.u, T.u, T.u, T.u]
def P24 : List PT := [pI, pI, .us 22]
def S24 (x0 x1 : Int) : List T := [(tI x0), (tI x1), T.u, T.u, T.u, T.u, T.u, T.u, T.u, T.u, T.u, T.u, T.u, T.u, T.u, T.u, T.u, T.u, T.u, T.u, T.u, T.u, T.u, T.u]
def P25 : List PT := [pI, pI, .us 7, (.r (.ro 1)), pI, pI, .us 12]
noncomputable def M72_2 {β : Type} (l72_2_0 : (Int → Int → Bool → Option β) → (Int → Int → Option β) → Int → Int → List R → Int → Int → Option β) (s : List T) : Option ((Ex → List T → Option β) → Option β) :=
  match gTs P25 (clean ((Hn 72).lp 2).1 s) [] with
  | some [.i x0, .i x1, .l x2, .i x3, .i x4] => some fun kk => l72_2_0 (fun x5 x6 x7 => kk Ex.rt (S23 x5 x6 x7)) (fun x8 x9 => kk (Ex.ex 0) (S24 x8 x9)) x0 x1 x2 x3 x4
  | _ => none
theorem e72_2_0 {β : Type} (A : Pr) (B : Pk) (l72_2_0 : (Int → Int → Bool → Option β) → (Int → Int → Option β) → Int → Int → List R → Int → Int → Option β) (x0 x1 : Int) (x2 : List R) (x3 x4 : Int) (kk : Ex → List T → Option β) :
    uTs P25 [.i x0, .i x1, .l x2, .i x3, .i x4] (fun s _ => evK (mkK Try.prog A B [] [] (Hn 72).pt []) X72_2 s (fun e s' => match e with
      | .nm => (match M72_2 l72_2_0 s' with | some h => h kk | none => none)
      | .ex m => kk (.ex m) (clean ((Hn 72).lp (firstReg X72_2)).2 s')
      | .rt => kk .rt (clean ((Hn 72).lp (firstReg X72_2)).2 s'))) = GL72_2_0 A B l72_2_0 (fun x5 x6 x7 => kk Ex.rt (S23 x5 x6 x7)) (fun x8 x9 => kk (Ex.ex 0) (S24 x8 x9)) x0 x1 x2 x3 x4 := by kernel_rfl
theorem ol72_2 {β : Type} (N : Nat) : ∀ n, SndL (β := β) Try.prog Hn (Hn 72) X72_2 (M72_2 (L72_2_0 re rk N n))
  | 0 => by
    intro s h kk r ha hr
    unfold M72_2 at ha
    split at ha
    · cases ha; cases hr
    · cases ha
  | n + 1 => by
    have ih := ol72_2 (β := β) N n
    intro s h kk r ha hr
    unfold M72_2 at ha
    split at ha
    · rename_i hs
      cases ha
      have hk := via_pat hs ((e72_2_0 re rk (L72_2_0 re rk N n) _ _ _ _ _ kk).trans hr)
      exact round_ok (show SndAll Try.prog Hn [] from trivial) (spots := []) (by kernel_rfl) trivial ih (hd := clean ((Hn 72).lp 2).1 s) (by rw [i72_2]) hk
    · cases ha
def G72_0 {β : Type} (A : Pr) (B : Pk) (l72_2_0 : (Int → Int → Bool → Option β) → (Int → Int → Option β) → Int → Int → List R → Int → Int → Option β) (x0 x1 : Int) (x2 : List R) (k0 : KB β) : Option β :=
    l72_2_0 (fun x3 x4 x5 =>
    k0 x5) (fun x6 x7 =>
    k0 true) x0 x1 x2 (A.on (A.len x2)) 0
def F72_0 {β : Type} (A : Pr) (B : Pk) (N : Nat) (x0 x1 : Int) (x2 : List R) (k0 : KB β) : Option β :=
  G72_0 A B (L72_2_0 A B N N) x0 x1 x2 k0
def P26 : List PT := [pI, pI, (.r (.ro 1))]
def M72_0 {β : Type} (f72_0 : Int → Int → List R → (KB β) → Option β) (a : List T) : Option ((T → List (List T) → Option β) → Option β) :=
  match gTs P26 a [] with
  | some [.i x0, .i x1, .l x2] => some fun kk => f72_0 x0 x1 x2 (fun x3 => kk (tB x3) [])
  | _ => none
theorem e72_0 {β : Type} (A : Pr) (B : Pk) (l72_2_0 : (Int → Int → Bool → Option β) → (Int → Int → Option β) → Int → Int → List R → Int → Int → Option β) (x0 x1 : Int) (x2 : List R) (kk : T → List (List T) → Option β) :
    uTs P26 [.i x0, .i x1, .l x2] (fun a _ => bodyK (mkK Try.prog A B [] [(2, M72_2 l72_2_0)] (Hn 72).pt []) Try.f72 a kk) = G72_0 A B l72_2_0 x0 x1 x2 (fun x3 => kk (tB x3) []) := by kernel_rfl
theorem o72_0 {β : Type} (N : Nat) : Snd (β := β) Try.prog Hn 72 (M72_0 (F72_0 re rk N)) := by
  intro a h kk r ha hr
  unfold M72_0 at ha
  split at ha
  · rename_i hs
    cases ha
    have hk := via_pat hs ((e72_0 re rk (L72_2_0 re rk N N) _ _ _ kk).trans hr)
    exact fn_ok (f := 72) (fn := Try.f72) (H := Hn) (by kernel_rfl) (show SndAll Try.prog Hn [] from trivial) (spots := [.lp X72_2]) (by kernel_rfl) ⟨cut_lp (id := 2) i72_2 (ol72_2 N N) (fun s kk => by kernel_rfl), trivial⟩ hk
  · cases ha
def G73_0 {β : Type} (A : Pr) (B : Pk) (x0 x1 : Int) (k0 : KI β) : Option β :=
    match (A.cm .lss x1 1) with
    | true => (k0 0)
    | false => (match (A.nz x1) with
      | true => none
      | false => (match (A.nz x1) with
        | true => none
        | false => (match (A.cm .gtr (A.ar .rem .i64 x0 x1) 0) with
          | true => (k0 (A.ar .add .i64 (A.ar .quo .i64 x0 x1) 1))
          | false => (k0 (A.ar .quo .i64 x0 x1)))))
def F73_0 {β : Type} (A : Pr) (B : Pk) (N : Nat) (x0 x1 : Int) (k0 : KI β) : Option β :=
  G73_0 A B  x0 x1 k0
def M73_0 {β : Type} (f73_0 : Int → Int → (KI β) → Option β) (a : List T) : Option ((T → List (List T) → Option β) → Option β) :=
  match gTs P2 a [] with
  | some [.i x0, .i x1] => some fun kk => f73_0 x0 x1 (fun x2 => kk (tI x2) [])
  | _ => none
theorem e73_0 {β : Type} (A : Pr) (B : Pk) (x0 x1 : Int) (kk : T → List (List T) → Option β) :
    uTs P2 [.i x0, .i x1] (fun a _ => bodyK (mkK Try.prog A B [] [] (Hn 73).pt []) Try.f73 a kk) = G73_0 A B  x0 x1 (fun x2 => kk (tI x2) []) := by kernel_rfl
theorem o73_0 {β : Type} (N : Nat) : Snd (β := β) Try.prog Hn 73 (M73_0 (F73_0 re rk N)) := by
  intro a h kk r ha hr
  unfold M73_0 at ha
  split at ha
  · rename_i hs
    cases ha
    have hk := via_pat hs ((e73_0 re rk  _ _ kk).trans hr)
    exact fn_ok (f := 73) (fn := Try.f73) (H := Hn) (by kernel_rfl) (show SndAll Try.prog Hn [] from trivial) (spots := []) (by kernel_rfl) trivial hk
  · cases ha
def G47_0 {β : Type} (A : Pr) (B : Pk) (f61_0 : Int → Int → Int → Int → (KB β) → Option β) (f73_0 : Int → Int → (KI β) → Option β) (x0 x1 x2 x3 x4 x5 : Int) (k0 : K4 β) : Option β :=
    f61_0 x0 x1 x2 x3 (fun x6 =>
    match (A.bn x6) with
      | true => (k0 0 0 0 0)
      | false => (match (A.cm .lss x4 1) with
        | true => (k0 0 0 0 0)
        | false => (match (A.cm .gtr x4 4096) with
          | true => (k0 0 0 0 0)
          | false => (match (A.cm .lss x5 1) with
            | true => (k0 0 0 0 0)
            | false => (match (A.cm .gtr x5 4096) with
              | true => (k0 0 0 0 0)
              | false => (f73_0 x0 x4 (fun x7 =>
                f73_0 x1 x5 (fun x8 =>
                  f73_0 x2 x4 (fun x9 =>
                    f73_0 x3 x5 (fun xa =>
                      k0 x7 x8 x9 xa))))))))))
def F47_0 {β : Type} (A : Pr) (B : Pk) (N : Nat) (x0 x1 x2 x3 x4 x5 : Int) (k0 : K4 β) : Option β :=
  G47_0 A B (F61_0 A B N) (F73_0 A B N) x0 x1 x2 x3 x4 x5 k0
def M47_0 {β : Type} (f47_0 : Int → Int → Int → Int → Int → Int → (K4 β) → Option β) (a : List T) : Option ((T → List (List T) → Option β) → Option β) :=
  match gTs P3 a [] with
  | some [.i x0, .i x1, .i x2, .i x3, .i x4, .i x5] => some fun kk => f47_0 x0 x1 x2 x3 x4 x5 (fun x6 x7 x8 x9 => kk (T.r (R.a [(R.i .i64 x6), (R.i .i64 x7), (R.i .i64 x8), (R.i .i64 x9)])) [])
  | _ => none
theorem e47_0 {β : Type} (A : Pr) (B : Pk) (f61_0 : Int → Int → Int → Int → (KB β) → Option β) (f73_0 : Int → Int → (KI β) → Option β) (x0 x1 x2 x3 x4 x5 : Int) (kk : T → List (List T) → Option β) :
    uTs P3 [.i x0, .i x1, .i x2, .i x3, .i x4, .i x5] (fun a _ => bodyK (mkK Try.prog A B [(61, M61_0 f61_0), (73, M73_0 f73_0)] [] (Hn 47).pt []) Try.f47 a kk) = G47_0 A B f61_0 f73_0 x0 x1 x2 x3 x4 x5 (fun x6 x7 x8 x9 => kk (T.r (R.a [(R.i .i64 x6), (R.i .i64 x7), (R.i .i64 x8), (R.i .i64 x9)])) []) := by kernel_rfl
theorem o47_0 {β : Type} (N : Nat) : Snd (β := β) Try.prog Hn 47 (M47_0 (F47_0 re rk N)) := by
  intro a h kk r ha hr
  unfold M47_0 at ha
  split at ha
  · rename_i hs
    cases ha
    have hk := via_pat hs ((e47_0 re rk (F61_0 re rk N) (F73_0 re rk N) _ _ _ _ _ _ kk).trans hr)
    exact fn_ok (f := 47) (fn := Try.f47) (H := Hn) (by kernel_rfl) (show SndAll Try.prog Hn [(61, M61_0 (F61_0 re rk N)), (73, M73_0 (F73_0 re rk N))] from ⟨o61_0 N, o73_0 N, trivial⟩) (spots := []) (by kernel_rfl) trivial hk
  · cases ha
noncomputable def X45_4 : Code := atF Try.f45 [true, true, false, true, false, false]
theorem i45_4 : firstReg X45_4 = 4 := by kernel_rfl
def GL45_4_0 {β : Type} (A : Pr) (B : Pk) (f72_0 : Int → Int → List R → (KB β) → Option β) (f47_0 : Int → Int → Int → Int → Int → Int → (K4 β) → Option β) (f62_0 : Int → Int → Int → Int → (KB β) → Option β) (l45_4_0 : (Int → Int → Int → Int → Int → Int → List R → Int → Option β) → (Int → Int → Int → Int → Int → Int → List R → Option β) → Q3 β) (k0 : Int → Int → Int → Int → Int → Int → List R → Int → Option β) (k1 : Int → Int → Int → Int → Int → Int → List R → Option β) (x0 x1 x2 x3 x4 x5 : Int) (x6 x7 : List R) (x8 x9 : Int) : Option β :=
    match (A.cm .lss x9 x8) with
    | true => (match (A.ix x9 (A.len x7)) with
      | some xa => (match (B.okE [(Sh.i .i64), Sh.b, (Sh.i .i64), (Sh.i .i64)] true x7 xa) with
        | true => (f72_0 1 16 [(R.i .i64 (B.ci x7 xa 0))] (fun xb =>
          match (A.bn xb) with
            | true => (k0 x0 x1 x2 x3 x4 x5 x6 12)
            | false => (f72_0 1 4 [(R.i .i64 (B.ci x7 xa 2)), (R.i .i64 (B.ci x7 xa 3))] (fun xc =>
              match (A.bn xc) with
                | true => (k0 x0 x1 x2 x3 x4 x5 x6 12)
                | false => (f47_0 x0 x1 x2 x3 (B.ci x7 xa 2) (B.ci x7 xa 3) (fun xd xe xf xg =>
                  f62_0 xd xe xf xg (fun xh =>
                    match xh with
                      | true => (k0 x0 x1 x2 x3 x4 x5 x6 12)
                      | false => (l45_4_0 k0 k1 x0 x1 x2 x3 x4 x5 x6 x7 x8 (A.ar .add .i64 x9 1)))))))))
        | false => none)
      | none => none)
    | false => (k1 x0 x1 x2 x3 x4 x5 x6)
def L45_4_0 {β : Type} (A : Pr) (B : Pk) (N : Nat) : Nat → (Int → Int → Int → Int → Int → Int → List R → Int → Option β) → (Int → Int → Int → Int → Int → Int → List R → Option β) → Q3 β
  | 0, _, _, _, _, _, _, _, _, _, _, _, _ => none
  | n + 1, k0, k1, x0, x1, x2, x3, x4, x5, x6, x7, x8, x9 =>
    GL45_4_0 A B (F72_0 A B N) (F47_0 A B N) (F62_0 A B N) (L45_4_0 A B N n) k0 k1 x0 x1 x2 x3 x4 x5 x6 x7 x8 x9
def P27 : List PT := [.us 1, (.bx [pI, pI, pI, pI, pI, pI, (.r (.ro 4))]), pI, .us 111]
def S27 (x0 x1 x2 x3 x4 x5 : Int) (x6 : List R) (x7 : Int) : List T := (T.u :: (T.bx [(tI x0), (tI x1), (tI x2), (tI x3), (tI x4), (tI x5), (T.r (R.ro 4 x6))]) :: (tI x7) :: T.u :: T.u :: T.u :: T.u :: T.u :: T.u :: T.u :: T.u :: T.u :: T.u :: T.u :: T.u :: T.u :: T.u :: T.u :: T.u :: T.u :: T.u :: T.u :: T.u :: T.u :: T.u :: T.u :: T.u :: T.u :: T.u :: T.u :: T.u :: T.u :: T.u :: T.u :: T.u :: T.u :: T.u :: T.u :: T.u :: T.u :: T.u :: T.u :: T.u :: T.u :: T.u :: T.u :: T.u :: T.u :: T.u :: T.u :: T.u :: T.u :: T.u :: T.u :: T.u :: T.u :: T.u :: T.u :: T.u :: T.u :: T.u :: T.u :: T.u :: T.u :: T.u :: T.u :: T.u :: T.u :: T.u :: T.u :: T.u :: T.u :: T.u :: T.u :: T.u :: T.u :: T.u :: T.u :: T.u :: T.u :: T.u :: T.u :: T.u :: T.u :: T.u :: T.u :: T.u :: T.u :: T.u :: T.u :: T.u :: T.u :: T.u :: T.u :: T.u :: T.u :: T.u :: T.u :: T.u :: T.u :: T.u :: T.u :: T.u :: T.u :: T.u :: T.u :: T.u :: T.u :: T.u :: T.u :: T.u :: T.u :: T.u :: T.u :: [])
def P28 : List PT := [.us 1, (.bx [pI, pI, pI, pI, pI, pI, (.r (.ro 4))]), .us 112]
def S28 (x0 x1 x2 x3 x4 x5 : Int) (x6 : List R) : List T := (T.u :: (T.bx [(tI x0), (tI x1), (tI x2), (tI x3), (tI x4), (tI x5), (T.r (R.ro 4 x6))]) :: T.u :: T.u :: T.u :: T.u :: T.u :: T.u :: T.u :: T.u :: T.u :: T.u :: T.u :: T.u :: T.u :: T.u :: T.u :: T.u :: T.u :: T.u :: T.u :: T.u :: T.u :: T.u :: T.u :: T.u :: T.u :: T.u :: T.u :: T.u :: T.u :: T.u :: T.u :: T.u :: T.u :: T.u :: T.u :: T.u :: T.u :: T.u :: T.u :: T.u :: T.u :: T.u :: T.u :: T.u :: T.u :: T.u :: T.u :: T.u :: T.u :: T.u :: T.u :: T.u :: T.u :: T.u :: T.u :: T.u :: T.u :: T.u :: T.u :: T.u :: T.u :: T.u :: T.u :: T.u :: T.u :: T.u :: T.u :: T.u :: T.u :: T.u :: T.u :: T.u :: T.u :: T.u :: T.u :: T.u :: T.u :: T.u :: T.u :: T.u :: T.u :: T.u :: T.u :: T.u :: T.u :: T.u :: T.u :: T.u :: T.u :: T.u :: T.u :: T.u :: T.u :: T.u :: T.u :: T.u :: T.u :: T.u :: T.u :: T.u :: T.u :: T.u :: T.u :: T.u :: T.u :: T.u :: T.u :: T.u :: T.u :: T.u :: T.u :: T.u :: [])
def P29 : List PT := [.us 1, (.bx [pI, pI, pI, pI, pI, pI, (.r (.ro 4))]), .us 34, (.r (.ro 4)), pI, pI, .us 75]
noncomputable def M45_4 {β : Type} (l45_4_0 : (Int → Int → Int → Int → Int → Int → List R → Int → Option β) → (Int → Int → Int → Int → Int → Int → List R → Option β) → Q3 β) (s : List T) : Option ((Ex → List T → Option β) → Option β) :=
  match gTs P29 (clean ((Hn 45).lp 4).1 s) [] with
  | some [.i x0, .i x1, .i x2, .i x3, .i x4, .i x5, .l x6, .l x7, .i x8, .i x9] => some fun kk => l45_4_0 (fun xa xb xc xd xe xf xg xh => kk Ex.rt (S27 xa xb xc xd xe xf xg xh)) (fun xi xj xk xl xm xn xo => kk (Ex.ex 0) (S28 xi xj xk xl xm xn xo)) x0 x1 x2 x3 x4 x5 x6 x7 x8 x9
  | _ => none
theorem e45_4_0 {β : Type} (A : Pr) (B : Pk) (f72_0 : Int → Int → List R → (KB β) → Option β) (f47_0 : Int → Int → Int → Int → Int → Int → (K4 β) → Option β) (f62_0 : Int → Int → Int → Int → (KB β) → Option β) (l45_4_0 : (Int → Int → Int → Int → Int → Int → List R → Int → Option β) → (Int → Int → Int → Int → Int → Int → List R → Option β) → Q3 β) (x0 x1 x2 x3 x4 x5 : Int) (x6 x7 : List R) (x8 x9 : Int) (kk : Ex → List T → Option β) :
    uTs P29 [.i x0, .i x1, .i x2, .i x3, .i x4, .i x5, .l x6, .l x7, .i x8, .i x9] (fun s _ => evK (mkK Try.prog A B [(72, M72_0 f72_0), (47, M47_0 f47_0), (62, M62_0 f62_0)] [] (Hn 45).pt []) X45_4 s (fun e s' => match e with
      | .nm => (match M45_4 l45_4_0 s' with | some h => h kk | none => none)
      | .ex m => kk (.ex m) (clean ((Hn 45).lp (firstReg X45_4)).2 s')
      | .rt => kk .rt (clean ((Hn 45).lp (firstReg X45_4)).2 s'))) = GL45_4_0 A B f72_0 f47_0 f62_0 l45_4_0 (fun xa xb xc xd xe xf xg xh => kk Ex.rt (S27 xa xb xc xd xe xf xg xh)) (fun xi xj xk xl xm xn xo => kk (Ex.ex 0) (S28 xi xj xk xl xm xn xo)) x0 x1 x2 x3 x4 x5 x6 x7 x8 x9 := by kernel_rfl
theorem ol45_4 {β : Type} (N : Nat) : ∀ n, SndL (β := β) Try.prog Hn (Hn 45) X45_4 (M45_4 (L45_4_0 re rk N n))
  | 0 => by
    intro s h kk r ha hr
    unfold M45_4 at ha
    split at ha
    · cases ha; cases hr
    · cases ha
  | n + 1 => by
    have ih := ol45_4 (β := β) N n
    intro s h kk r ha hr
    unfold M45_4 at ha
    split at ha
    · rename_i hs
      cases ha
      have hk := via_pat hs ((e45_4_0 re rk (F72_0 re rk N) (F47_0 re rk N) (F62_0 re rk N) (L45_4_0 re rk N n) _ _ _ _ _ _ _ _ _ _ kk).trans hr)
      exact round_ok (show SndAll Try.prog Hn [(72, M72_0 (F72_0 re rk N)), (47, M47_0 (F47_0 re rk N)), (62, M62_0 (F62_0 re rk N))] from ⟨o72_0 N, o47_0 N, o62_0 N, trivial⟩) (spots := []) (by kernel_rfl) trivial ih (hd := clean ((Hn 45).lp 4).1 s) (by rw [i45_4]) hk
    · cases ha
def G74_0 {β : Type} (A : Pr) (B : Pk) (x0 x1 : Int) (k0 : KI β) : Option β :=
    match (A.cm .lss x1 1) with
    | true => (k0 0)
    | false => (match (A.nz x1) with
      | true => none
      | false => (match (A.nz x1) with
        | true => none
        | false => (match (A.cm .lss (A.ar .rem .i64 x0 x1) 0) with
          | true => (k0 (A.ar .sub .i64 (A.ar .quo .i64 x0 x1) 1))
          | false => (k0 (A.ar .quo .i64 x0 x1)))))
def F74_0 {β : Type} (A : Pr) (B : Pk) (N : Nat) (x0 x1 : Int) (k0 : KI β) : Option β :=
  G74_0 A B  x0 x1 k0
def M74_0 {β : Type} (f74_0 : Int → Int → (KI β) → Option β) (a : List T) : Option ((T → List (List T) → Option β) → Option β) :=
  match gTs P2 a [] with
  | some [.i x0, .i x1] => some fun kk => f74_0 x0 x1 (fun x2 => kk (tI x2) [])
  | _ => none
theorem e74_0 {β : Type} (A : Pr) (B : Pk) (x0 x1 : Int) (kk : T → List (List T) → Option β) :
    uTs P2 [.i x0, .i x1] (fun a _ => bodyK (mkK Try.prog A B [] [] (Hn 74).pt []) Try.f74 a kk) = G74_0 A B  x0 x1 (fun x2 => kk (tI x2) []) := by kernel_rfl
theorem o74_0 {β : Type} (N : Nat) : Snd (β := β) Try.prog Hn 74 (M74_0 (F74_0 re rk N)) := by
  intro a h kk r ha hr
  unfold M74_0 at ha
  split at ha
  · rename_i hs
    cases ha
    have hk := via_pat hs ((e74_0 re rk  _ _ kk).trans hr)
    exact fn_ok (f := 74) (fn := Try.f74) (H := Hn) (by kernel_rfl) (show SndAll Try.prog Hn [] from trivial) (spots := []) (by kernel_rfl) trivial hk
  · cases ha
def G75_0 {β : Type} (A : Pr) (B : Pk) (f61_0 : Int → Int → Int → Int → (KB β) → Option β) (x0 x1 x2 x3 : Int) (k0 : KI β) : Option β :=
    f61_0 x0 x1 x2 x3 (fun x4 =>
    match (A.bn x4) with
      | true => (k0 0)
      | false => (k0 (A.ar .mul .i64 (A.ar .sub .i64 x2 x0) (A.ar .sub .i64 x3 x1))))
def F75_0 {β : Type} (A : Pr) (B : Pk) (N : Nat) (x0 x1 x2 x3 : Int) (k0 : KI β) : Option β :=
  G75_0 A B (F61_0 A B N) x0 x1 x2 x3 k0
def M75_0 {β : Type} (f75_0 : Int → Int → Int → Int → (KI β) → Option β) (a : List T) : Option ((T → List (List T) → Option β) → Option β) :=
  match gTs P0 a [] with
  | some [.i x0, .i x1, .i x2, .i x3] => some fun kk => f75_0 x0 x1 x2 x3 (fun x4 => kk (tI x4) [])
  | _ => none
theorem e75_0 {β : Type} (A : Pr) (B : Pk) (f61_0 : Int → Int → Int → Int → (KB β) → Option β) (x0 x1 x2 x3 : Int) (kk : T → List (List T) → Option β) :
    uTs P0 [.i x0, .i x1, .i x2, .i x3] (fun a _ => bodyK (mkK Try.prog A B [(61, M61_0 f61_0)] [] (Hn 75).pt []) Try.f75 a kk) = G75_0 A B f61_0 x0 x1 x2 x3 (fun x4 => kk (tI x4) []) := by kernel_rfl
theorem o75_0 {β : Type} (N : Nat) : Snd (β := β) Try.prog Hn 75 (M75_0 (F75_0 re rk N)) := by
  intro a h kk r ha hr
  unfold M75_0 at ha
  split at ha
  · rename_i hs
    cases ha
    have hk := via_pat hs ((e75_0 re rk (F61_0 re rk N) _ _ _ _ kk).trans hr)
    exact fn_ok (f := 75) (fn := Try.f75) (H := Hn) (by kernel_rfl) (show SndAll Try.prog Hn [(61, M61_0 (F61_0 re rk N))] from ⟨o61_0 N, trivial⟩) (spots := []) (by kernel_rfl) trivial hk
  · cases ha
noncomputable def X45_14 : Code := atF Try.f45 [true, true, true, true, true, true, false, true, false, false]
theorem i45_14 : firstReg X45_14 = 14 := by kernel_rfl
def GL45_14_0 {β : Type} (A : Pr) (B : Pk) (f47_0 : Int → Int → Int → Int → Int → Int → (K4 β) → Option β) (f75_0 : Int → Int → Int → Int → (KI β) → Option β) (l45_14_0 : (KI β) → (Option β) → Q3 β) (k0 : KI β) (k1 : Option β) (x0 x1 x2 x3 x4 x5 : Int) (x6 x7 : List R) (x8 x9 : Int) : Option β :=
    match (A.cm .lss x9 x8) with
    | true => (match (A.ix x9 (A.len x7)) with
      | some xa => (match (B.okE [(Sh.i .i64), Sh.b, (Sh.i .i64), (Sh.i .i64)] true x7 xa) with
        | true => (f47_0 x0 x1 x2 x3 (B.ci x7 xa 2) (B.ci x7 xa 3) (fun xb xc xd xe =>
          f75_0 xb xc xd xe (fun xf =>
            match (A.cm .gtr xf 1048576) with
              | true => (k0 5)
              | false => (l45_14_0 k0 k1 x0 x1 x2 x3 x4 x5 x6 x7 x8 (A.ar .add .i64 x9 1)))))
        | false => none)
      | none => none)
    | false => k1
def L45_14_0 {β : Type} (A : Pr) (B : Pk) (N : Nat) : Nat → (KI β) → (Option β) → Q3 β
  | 0, _, _, _, _, _, _, _, _, _, _, _, _ => none
  | n + 1, k0, k1, x0, x1, x2, x3, x4, x5, x6, x7, x8, x9 =>
    GL45_14_0 A B (F47_0 A B N) (F75_0 A B N) (L45_14_0 A B N n) k0 k1 x0 x1 x2 x3 x4 x5 x6 x7 x8 x9
def P30 : List PT := [.us 2, pI, .us 111]
def S30 (x0 : Int) : List T := (T.u :: T.u :: (tI x0) :: T.u :: T.u :: T.u :: T.u :: T.u :: T.u :: T.u :: T.u :: T.u :: T.u :: T.u :: T.u :: T.u :: T.u :: T.u :: T.u :: T.u :: T.u :: T.u :: T.u :: T.u :: T.u :: T.u :: T.u :: T.u :: T.u :: T.u :: T.u :: T.u :: T.u :: T.u :: T.u :: T.u :: T.u :: T.u :: T.u :: T.u :: T.u :: T.u :: T.u :: T.u :: T.u :: T.u :: T.u :: T.u :: T.u :: T.u :: T.u :: T.u :: T.u :: T.u :: T.u :: T.u :: T.u :: T.u :: T.u :: T.u :: T.u :: T.u :: T.u :: T.u :: T.u :: T.u :: T.u :: T.u :: T.u :: T.u :: T.u :: T.u :: T.u :: T.u :: T.u :: T.u :: T.u :: T.u :: T.u :: T.u :: T.u :: T.u :: T.u :: T.u :: T.u :: T.u :: T.u :: T.u :: T.u :: T.u :: T.u :: T.u :: T.u :: T.u :: T.u :: T.u :: T.u :: T.u :: T.u :: T.u :: T.u :: T.u :: T.u :: T.u :: T.u :: T.u :: T.u :: T.u :: T.u :: T.u :: T.u :: T.u :: T.u :: T.u :: [])
def P31 : List PT := [.us 114]
def S31  : List T := (T.u :: T.u :: T.u :: T.u :: T.u :: T.u :: T.u :: T.u :: T.u :: T.u :: T.u :: T.u :: T.u :: T.u :: T.u :: T.u :: T.u :: T.u :: T.u :: T.u :: T.u :: T.u :: T.u :: T.u :: T.u :: T.u :: T.u :: T.u :: T.u :: T.u :: T.u :: T.u :: T.u :: T.u :: T.u :: T.u :: T.u :: T.u :: T.u :: T.u :: T.u :: T.u :: T.u :: T.u :: T.u :: T.u :: T.u :: T.u :: T.u :: T.u :: T.u :: T.u :: T.u :: T.u :: T.u :: T.u :: T.u :: T.u :: T.u :: T.u :: T.u :: T.u :: T.u :: T.u :: T.u :: T.u :: T.u :: T.u :: T.u :: T.u :: T.u :: T.u :: T.u :: T.u :: T.u :: T.u :: T.u :: T.u :: T.u :: T.u :: T.u :: T.u :: T.u :: T.u :: T.u :: T.u :: T.u :: T.u :: T.u :: T.u :: T.u :: T.u :: T.u :: T.u :: T.u :: T.u :: T.u :: T.u :: T.u :: T.u :: T.u :: T.u :: T.u :: T.u :: T.u :: T.u :: T.u :: T.u :: T.u :: T.u :: T.u :: T.u :: T.u :: T.u :: [])
def P32 : List PT := [.us 1, (.bx [pI, pI, pI, pI, pI, pI, (.r (.ro 4))]), .us 96, (.r (.ro 4)), pI, pI, .us 13]
noncomputable def M45_14 {β : Type} (l45_14_0 : (KI β) → (Option β) → Q3 β) (s : List T) : Option ((Ex → List T → Option β) → Option β) :=
  match gTs P32 (clean ((Hn 45).lp 14).1 s) [] with
  | some [.i x0, .i x1, .i x2, .i x3, .i x4, .i x5, .l x6, .l x7, .i x8, .i x9] => some fun kk => l45_14_0 (fun xa => kk Ex.rt (S30 xa)) (kk (Ex.ex 2) (S31)) x0 x1 x2 x3 x4 x5 x6 x7 x8 x9
  | _ => none
theorem e45_14_0 {β : Type} (A : Pr) (B : Pk) (f47_0 : Int → Int → Int → Int → Int → Int → (K4 β) → Option β) (f75_0 : Int → Int → Int → Int → (KI β) → Option β) (l45_14_0 : (KI β) → (Option β) → Q3 β) (x0 x1 x2 x3 x4 x5 : Int) (x6 x7 : List R) (x8 x9 : Int) (kk : Ex → List T → Option β) :
    uTs P32 [.i x0, .i x1, .i x2, .i x3, .i x4, .i x5, .l x6, .l x7, .i x8, .i x9] (fun s _ => evK (mkK Try.prog A B [(47, M47_0 f47_0), (75, M75_0 f75_0)] [] (Hn 45).pt []) X45_14 s (fun e s' => match e with
      | .nm => (match M45_14 l45_14_0 s' with | some h => h kk | none => none)
      | .ex m => kk (.ex m) (clean ((Hn 45).lp (firstReg X45_14)).2 s')
      | .rt => kk .rt (clean ((Hn 45).lp (firstReg X45_14)).2 s'))) = GL45_14_0 A B f47_0 f75_0 l45_14_0 (fun xa => kk Ex.rt (S30 xa)) (kk (Ex.ex 2) (S31)) x0 x1 x2 x3 x4 x5 x6 x7 x8 x9 := by kernel_rfl
theorem ol45_14 {β : Type} (N : Nat) : ∀ n, SndL (β := β) Try.prog Hn (Hn 45) X45_14 (M45_14 (L45_14_0 re rk N n))
  | 0 => by
    intro s h kk r ha hr
    unfold M45_14 at ha
    split at ha
    · cases ha; cases hr
    · cases ha
  | n + 1 => by
    have ih := ol45_14 (β := β) N n
    intro s h kk r ha hr
    unfold M45_14 at ha
    split at ha
    · rename_i hs
      cases ha
      have hk := via_pat hs ((e45_14_0 re rk (F47_0 re rk N) (F75_0 re rk N) (L45_14_0 re rk N n) _ _ _ _ _ _ _ _ _ _ kk).trans hr)
      exact round_ok (show SndAll Try.prog Hn [(47, M47_0 (F47_0 re rk N)), (75, M75_0 (F75_0 re rk N))] from ⟨o47_0 N, o75_0 N, trivial⟩) (spots := []) (by kernel_rfl) trivial ih (hd := clean ((Hn 45).lp 14).1 s) (by rw [i45_14]) hk
    · cases ha
def G45_0 {β : Type} (A : Pr) (B : Pk) (f61_0 : Int → Int → Int → Int → (KB β) → Option β) (f62_0 : Int → Int → Int → Int → (KB β) → Option β) (f72_0 : Int → Int → List R → (KB β) → Option β) (f73_0 : Int → Int → (KI β) → Option β) (f74_0 : Int → Int → (KI β) → Option β) (l45_4_0 : (Int → Int → Int → Int → Int → Int → List R → Int → Option β) → (Int → Int → Int → Int → Int → Int → List R → Option β) → Q3 β) (l45_14_0 : (KI β) → (Option β) → Q3 β) (x0 x1 x2 x3 x4 x5 : Int) (x6 : List R) (k0 : KI β) : Option β :=
    f61_0 x0 x1 x2 x3 (fun x7 =>
    match (A.bn x7) with
      | true => (k0 12)
      | false => (f62_0 x0 x1 x2 x3 (fun x8 =>
        match x8 with
          | true => (k0 12)
          | false => (f72_0 1 4096 [(R.i .i64 x4), (R.i .i64 x5)] (fun x9 =>
            match (A.bn x9) with
              | true => (k0 12)
              | false => (f72_0 1 4 [(R.i .i64 (A.on (A.len x6)))] (fun xa =>
                match (A.bn xa) with
                  | true => (k0 12)
                  | false => (l45_4_0 (fun xb xc xd xe xf xg xh xi =>
                    k0 xi) (fun xj xk xl xm xn xo xp =>
                    f73_0 xl xn (fun xq =>
                      f74_0 xj xn (fun xr =>
                        f73_0 xm xo (fun xs =>
                          f74_0 xk xo (fun xt =>
                            match (A.cm .gtr (A.ar .mul .i64 (A.ar .sub .i64 xq xr) (A.ar .sub .i64 xs xt)) 1024) with
                              | true => (k0 5)
                              | false => (l45_14_0 (fun xu =>
                                k0 xu) (k0 0) xj xk xl xm xn xo xp xp (A.on (A.len xp)) 0)))))) x0 x1 x2 x3 x4 x5 x6 x6 (A.on (A.len x6)) 0))))))))
def F45_0 {β : Type} (A : Pr) (B : Pk) (N : Nat) (x0 x1 x2 x3 x4 x5 : Int) (x6 : List R) (k0 : KI β) : Option β :=
  G45_0 A B (F61_0 A B N) (F62_0 A B N) (F72_0 A B N) (F73_0 A B N) (F74_0 A B N) (L45_4_0 A B N N) (L45_14_0 A B N N) x0 x1 x2 x3 x4 x5 x6 k0
def M45_0 {β : Type} (f45_0 : Int → Int → Int → Int → Int → Int → List R → (KI β) → Option β) (a : List T) : Option ((T → List (List T) → Option β) → Option β) :=
  match gTs P7 a [] with
  | some [.i x0, .i x1, .i x2, .i x3, .i x4, .i x5, .l x6] => some fun kk => f45_0 x0 x1 x2 x3 x4 x5 x6 (fun x7 => kk (tI x7) [])
  | _ => none
theorem e45_0 {β : Type} (A : Pr) (B : Pk) (f61_0 : Int → Int → Int → Int → (KB β) → Option β) (f62_0 : Int → Int → Int → Int → (KB β) → Option β) (f72_0 : Int → Int → List R → (KB β) → Option β) (f73_0 : Int → Int → (KI β) → Option β) (f74_0 : Int → Int → (KI β) → Option β) (l45_4_0 : (Int → Int → Int → Int → Int → Int → List R → Int → Option β) → (Int → Int → Int → Int → Int → Int → List R → Option β) → Q3 β) (l45_14_0 : (KI β) → (Option β) → Q3 β) (x0 x1 x2 x3 x4 x5 : Int) (x6 : List R) (kk : T → List (List T) → Option β) :
    uTs P7 [.i x0, .i x1, .i x2, .i x3, .i x4, .i x5, .l x6] (fun a _ => bodyK (mkK Try.prog A B [(61, M61_0 f61_0), (62, M62_0 f62_0), (72, M72_0 f72_0), (73, M73_0 f73_0), (74, M74_0 f74_0)] [(4, M45_4 l45_4_0), (14, M45_14 l45_14_0)] (Hn 45).pt []) Try.f45 a kk) = G45_0 A B f61_0 f62_0 f72_0 f73_0 f74_0 l45_4_0 l45_14_0 x0 x1 x2 x3 x4 x5 x6 (fun x7 => kk (tI x7) []) := by kernel_rfl
theorem o45_0 {β : Type} (N : Nat) : Snd (β := β) Try.prog Hn 45 (M45_0 (F45_0 re rk N)) := by
  intro a h kk r ha hr
  unfold M45_0 at ha
  split at ha
  · rename_i hs
    cases ha
    have hk := via_pat hs ((e45_0 re rk (F61_0 re rk N) (F62_0 re rk N) (F72_0 re rk N) (F73_0 re rk N) (F74_0 re rk N) (L45_4_0 re rk N N) (L45_14_0 re rk N N) _ _ _ _ _ _ _ kk).trans hr)
    exact fn_ok (f := 45) (fn := Try.f45) (H := Hn) (by kernel_rfl) (show SndAll Try.prog Hn [(61, M61_0 (F61_0 re rk N)), (62, M62_0 (F62_0 re rk N)), (72, M72_0 (F72_0 re rk N)), (73, M73_0 (F73_0 re rk N)), (74, M74_0 (F74_0 re rk N))] from ⟨o61_0 N, o62_0 N, o72_0 N, o73_0 N, o74_0 N, trivial⟩) (spots := [.lp X45_4, .lp X45_14]) (by kernel_rfl) ⟨cut_lp (id := 4) i45_4 (ol45_4 N N) (fun s kk => by kernel_rfl), cut_lp (id := 14) i45_14 (ol45_14 N N) (fun s kk => by kernel_rfl), trivial⟩ hk
  · cases ha
noncomputable def X94_6 : Code := atF Try.f94 [true, true, true, false, true, false, false]
theorem i94_6 : firstReg X94_6 = 6 := by kernel_rfl
def GL94_6_0 {β : Type} (A : Pr) (B : Pk) (l94_6_0 : (Q4 β) → Q5 β) (k0 : Q4 β) (x0 x1 x2 x3 x4 x5 : Int) (x6 : List R) (x7 x8 x9 xa xb xc xd : Int) (xe xf xg xh xi xj xk xl : Bool) (xm : List R) (xn xo xp xq : Int) : Option β :=
    match (A.cm .lss xq xp) with
    | true => none
    | false => (k0 x0 x1 x2 x3 x4 x5 x6 x7 x8 x9 xa xb xc xd xe xf xg xh xi xj xk xl xm xn xo)
def L94_6_0 {β : Type} (A : Pr) (B : Pk) (N : Nat) : Nat → (Q4 β) → Q5 β
  | 0, _, _, _, _, _, _, _, _, _, _, _, _, _, _, _, _, _, _, _, _, _, _, _, _, _, _, _, _ => none
  | n + 1, k0, x0, x1, x2, x3, x4, x5, x6, x7, x8, x9, xa, xb, xc, xd, xe, xf, xg, xh, xi, xj, xk, xl, xm, xn, xo, xp, xq =>
    GL94_6_0 A B (L94_6_0 A B N n) k0 x0 x1 x2 x3 x4 x5 x6 x7 x8 x9 xa xb xc xd xe xf xg xh xi xj xk xl xm xn xo xp xq
def P33 : List PT := [.us 2, (.bx [pI, pI, pI, pI, pI, pI, (.r (.ro 4))]), (.bx [pI, pI, pI, pI, pI, (.r .sn), pI, pI, pB, pB, pB, pB, pB, pB, pB, pB, (.r (.ro 1)), pI, pI]), .us 110]
def S33 (x0 x1 x2 x3 x4 x5 : Int) (x6 : List R) (x7 x8 x9 xa xb xc xd : Int) (xe xf xg xh xi xj xk xl : Bool) (xm : List R) (xn xo : Int) : List T := (T.u :: T.u :: (T.bx [(tI x0), (tI x1), (tI x2), (tI x3), (tI x4), (tI x5), (T.r (R.ro 4 x6))]) :: (T.bx [(tI x7), (tI x8), (tI x9), (tI xa), (tI xb), (T.r R.sn), (tI xc), (tI xd), (tB xe), (tB xf), (tB xg), (tB xh), (tB xi), (tB xj), (tB xk), (tB xl), (T.r (R.ro 1 xm)), (tI xn), (tI xo)]) :: T.u :: T.u :: T.u :: T.u :: T.u :: T.u :: T.u :: T.u :: T.u :: T.u :: T.u :: T.u :: T.u :: T.u :: T.u :: T.u :: T.u :: T.u :: T.u :: T.u :: T.u :: T.u :: T.u :: T.u :: T.u :: T.u :: T.u :: T.u :: T.u :: T.u :: T.u :: T.u :: T.u :: T.u :: T.u :: T.u :: T.u :: T.u :: T.u :: T.u :: T.u :: T.u :: T.u :: T.u :: T.u :: T.u :: T.u :: T.u :: T.u :: T.u :: T.u :: T.u :: T.u :: T.u :: T.u :: T.u :: T.u :: T.u :: T.u :: T.u :: T.u :: T.u :: T.u :: T.u :: T.u :: T.u :: T.u :: T.u :: T.u :: T.u :: T.u :: T.u :: T.u :: T.u :: T.u :: T.u :: T.u :: T.u :: T.u :: T.u :: T.u :: T.u :: T.u :: T.u :: T.u :: T.u :: T.u :: T.u :: T.u :: T.u :: T.u :: T.u :: T.u :: T.u :: T.u :: T.u :: T.u :: T.u :: T.u :: T.u :: T.u :: T.u :: T.u :: T.u :: T.u :: T.u :: T.u :: T.u :: T.u :: T.u :: [])
def P34 : List PT := [.us 2, (.bx [pI, pI, pI, pI, pI, pI, (.r (.ro 4))]), (.bx [pI, pI, pI, pI, pI, (.r .sn), pI, pI, pB, pB, pB, pB, pB, pB, pB, pB, (.r (.ro 1)), pI, pI]), .us 32, (.r .sn), pI, pI, .us 75]
noncomputable def M94_6 {β : Type} (l94_6_0 : (Q4 β) → Q5 β) (s : List T) : Option ((Ex → List T → Option β) → Option β) :=
  match gTs P34 (clean ((Hn 94).lp 6).1 s) [] with
  | some [.i x0, .i x1, .i x2, .i x3, .i x4, .i x5, .l x6, .i x7, .i x8, .i x9, .i xa, .i xb, .i xc, .i xd, .b xe, .b xf, .b xg, .b xh, .b xi, .b xj, .b xk, .b xl, .l xm, .i xn, .i xo, .i xp, .i xq] => some fun kk => l94_6_0 (fun xr xs xt xu xv xw xx xy xz x10 x11 x12 x13 x14 x15 x16 x17 x18 x19 x1a x1b x1c x1d x1e x1f => kk (Ex.ex 0) (S33 xr xs xt xu xv xw xx xy xz x10 x11 x12 x13 x14 x15 x16 x17 x18 x19 x1a x1b x1c x1d x1e x1f)) x0 x1 x2 x3 x4 x5 x6 x7 x8 x9 xa xb xc xd xe xf xg xh xi xj xk xl xm xn xo xp xq
  | _ => none
theorem e94_6_0 {β : Type} (A : Pr) (B : Pk) (l94_6_0 : (Q4 β) → Q5 β) (x0 x1 x2 x3 x4 x5 : Int) (x6 : List R) (x7 x8 x9 xa xb xc xd : Int) (xe xf xg xh xi xj xk xl : Bool) (xm : List R) (xn xo xp xq : Int) (kk : Ex → List T → Option β) :
    uTs P34 [.i x0, .i x1, .i x2, .i x3, .i x4, .i x5, .l x6, .i x7, .i x8, .i x9, .i xa, .i xb, .i xc, .i xd, .b xe, .b xf, .b xg, .b xh, .b xi, .b xj, .b xk, .b xl, .l xm, .i xn, .i xo, .i xp, .i xq] (fun s _ => evK (mkK Try.prog A B [] [] (Hn 94).pt []) X94_6 s (fun e s' => match e with
      | .nm => (match M94_6 l94_6_0 s' with | some h => h kk | none => none)
      | .ex m => kk (.ex m) (clean ((Hn 94).lp (firstReg X94_6)).2 s')
      | .rt => kk .rt (clean ((Hn 94).lp (firstReg X94_6)).2 s'))) = GL94_6_0 A B l94_6_0 (fun xr xs xt xu xv xw xx xy xz x10 x11 x12 x13 x14 x15 x16 x17 x18 x19 x1a x1b x1c x1d x1e x1f => kk (Ex.ex 0) (S33 xr xs xt xu xv xw xx xy xz x10 x11 x12 x13 x14 x15 x16 x17 x18 x19 x1a x1b x1c x1d x1e x1f)) x0 x1 x2 x3 x4 x5 x6 x7 x8 x9 xa xb xc xd xe xf xg xh xi xj xk xl xm xn xo xp xq := by kernel_rfl
theorem ol94_6 {β : Type} (N : Nat) : ∀ n, SndL (β := β) Try.prog Hn (Hn 94) X94_6 (M94_6 (L94_6_0 re rk N n))
  | 0 => by
    intro s h kk r ha hr
    unfold M94_6 at ha
    split at ha
    · cases ha; cases hr
    · cases ha
  | n + 1 => by
    have ih := ol94_6 (β := β) N n
    intro s h kk r ha hr
    unfold M94_6 at ha
    split at ha
    · rename_i hs
      cases ha
      have hk := via_pat hs ((e94_6_0 re rk (L94_6_0 re rk N n) _ _ _ _ _ _ _ _ _ _ _ _ _ _ _ _ _ _ _ _ _ _ _ _ _ _ _ kk).trans hr)
      exact round_ok (show SndAll Try.prog Hn [] from trivial) (spots := []) (by kernel_rfl) trivial ih (hd := clean ((Hn 94).lp 6).1 s) (by rw [i94_6]) hk
    · cases ha
def G94_0 {β : Type} (A : Pr) (B : Pk) (f72_0 : Int → Int → List R → (KB β) → Option β) (l94_6_0 : (Q4 β) → Q5 β) (x0 x1 x2 x3 x4 x5 : Int) (x6 : List R) (x7 x8 x9 xa xb xc xd : Int) (xe xf xg xh xi xj xk xl : Bool) (xm : List R) (xn xo : Int) (k0 : KB β) : Option β :=
    f72_0 0 5 [(R.i .i64 x8)] (fun xp =>
    match (A.bn xp) with
      | true => (k0 false)
      | false => (f72_0 2 6 [(R.i .i64 xa), (R.i .i64 xb)] (fun xq =>
        match (A.bn xq) with
          | true => (k0 false)
          | false => (match (A.cm .neq (A.on 0) 0) with
            | true => (match (A.cm .neq (A.on 0) (A.ar .add .i64 x8 1)) with
              | true => (k0 false)
              | false => (l94_6_0 (fun xr xs xt xu xv xw xx xy xz x10 x11 x12 x13 x14 x15 x16 x17 x18 x19 x1a x1b x1c x1d x1e x1f =>
                f72_0 1 16 [(R.i .i64 x14)] (fun x1g =>
                  match (A.bn x1g) with
                    | true => (k0 false)
                    | false => (match (A.cm .neq (A.on (A.len x1d)) (A.ar .add .i64 (A.ar .mul .i64 3 xz) 1)) with
                      | true => (k0 false)
                      | false => (f72_0 1 65536 x1d (fun x1h =>
                        match (A.bn x1h) with
                          | true => (k0 false)
                          | false => (f72_0 8 32 [(R.i .i64 x1e)] (fun x1i =>
                            match (A.bn x1i) with
                              | true => (k0 false)
                              | false => (f72_0 0 30 [(R.i .i64 x1f)] (fun x1j =>
                                match (A.bn x1j) with
                                  | true => (k0 false)
                                  | false => (match (A.cm .eql x10 0) with
                                    | true => (k0 true)
                                    | false => (match (A.cm .geq (A.on (A.len xx)) 3) with
                                      | true => (match (A.ix 0 (A.len xx)) with
                                        | some x1k => (match (B.okE [(Sh.i .i64), Sh.b, (Sh.i .i64), (Sh.i .i64)] true xx x1k) with
                                          | true => (match (A.ix 1 (A.len xx)) with
                                            | some x1l => (match (B.okE [(Sh.i .i64), Sh.b, (Sh.i .i64), (Sh.i .i64)] true xx x1l) with
                                              | true => (match (A.ba (A.cm .eql (B.ci xx x1k 0) (B.ci xx x1l 0)) (A.ba (A.be (B.cb xx x1k 1) (B.cb xx x1l 1)) (A.ba (A.cm .eql (B.ci xx x1k 2) (B.ci xx x1l 2)) (A.ba (A.cm .eql (B.ci xx x1k 3) (B.ci xx x1l 3)) true)))) with
                                                | true => (match (A.ix 0 (A.len xx)) with
                                                  | some x1m => (match (B.okE [(Sh.i .i64), Sh.b, (Sh.i .i64), (Sh.i .i64)] true xx x1m) with
                                                    | true => (match (A.ix 2 (A.len xx)) with
                                                      | some x1n => (match (B.okE [(Sh.i .i64), Sh.b, (Sh.i .i64), (Sh.i .i64)] true xx x1n) with
                                                        | true => (k0 (A.ba (A.cm .eql (B.ci xx x1m 0) (B.ci xx x1n 0)) (A.ba (A.be (B.cb xx x1m 1) (B.cb xx x1n 1)) (A.ba (A.cm .eql (B.ci xx x1m 2) (B.ci xx x1n 2)) (A.ba (A.cm .eql (B.ci xx x1m 3) (B.ci xx x1n 3)) true)))))
                                                        | false => none)
                                                      | none => none)
                                                    | false => none)
                                                  | none => none)
                                                | false => (k0 false))
                                              | false => none)
                                            | none => none)
                                          | false => none)
                                        | none => none)
                                      | false => (k0 false)))))))))))) x0 x1 x2 x3 x4 x5 x6 x7 x8 x9 xa xb xc xd xe xf xg xh xi xj xk xl xm xn xo (A.on 0) 0))
            | false => (l94_6_0 (fun x1o x1p x1q x1r x1s x1t x1u x1v x1w x1x x1y x1z x20 x21 x22 x23 x24 x25 x26 x27 x28 x29 x2a x2b x2c =>
              f72_0 1 16 [(R.i .i64 x21)] (fun x2d =>
                match (A.bn x2d) with
                  | true => (k0 false)
                  | false => (match (A.cm .neq (A.on (A.len x2a)) (A.ar .add .i64 (A.ar .mul .i64 3 x1w) 1)) with
                    | true => (k0 false)
                    | false => (f72_0 1 65536 x2a (fun x2e =>
                      match (A.bn x2e) with
                        | true => (k0 false)
                        | false => (f72_0 8 32 [(R.i .i64 x2b)] (fun x2f =>
                          match (A.bn x2f) with
                            | true => (k0 false)
                            | false => (f72_0 0 30 [(R.i .i64 x2c)] (fun x2g =>
                              match (A.bn x2g) with
                                | true => (k0 false)
                                | false => (match (A.cm .eql x1x 0) with
                                  | true => (k0 true)
                                  | false => (match (A.cm .geq (A.on (A.len x1u)) 3) with
                                    | true => (match (A.ix 0 (A.len x1u)) with
                                      | some x2h => (match (B.okE [(Sh.i .i64), Sh.b, (Sh.i .i64), (Sh.i .i64)] true x1u x2h) with
                                        | true => (match (A.ix 1 (A.len x1u)) with
                                          | some x2i => (match (B.okE [(Sh.i .i64), Sh.b, (Sh.i .i64), (Sh.i .i64)] true x1u x2i) with
                                            | true => (match (A.ba (A.cm .eql (B.ci x1u x2h 0) (B.ci x1u x2i 0)) (A.ba (A.be (B.cb x1u x2h 1) (B.cb x1u x2i 1)) (A.ba (A.cm .eql (B.ci x1u x2h 2) (B.ci x1u x2i 2)) (A.ba (A.cm .eql (B.ci x1u x2h 3) (B.ci x1u x2i 3)) true)))) with
                                              | true => (match (A.ix 0 (A.len x1u)) with
                                                | some x2j => (match (B.okE [(Sh.i .i64), Sh.b, (Sh.i .i64), (Sh.i .i64)] true x1u x2j) with
                                                  | true => (match (A.ix 2 (A.len x1u)) with
                                                    | some x2k => (match (B.okE [(Sh.i .i64), Sh.b, (Sh.i .i64), (Sh.i .i64)] true x1u x2k) with
                                                      | true => (k0 (A.ba (A.cm .eql (B.ci x1u x2j 0) (B.ci x1u x2k 0)) (A.ba (A.be (B.cb x1u x2j 1) (B.cb x1u x2k 1)) (A.ba (A.cm .eql (B.ci x1u x2j 2) (B.ci x1u x2k 2)) (A.ba (A.cm .eql (B.ci x1u x2j 3) (B.ci x1u x2k 3)) true)))))
                                                      | false => none)
                                                    | none => none)
                                                  | false => none)
                                                | none => none)
                                              | false => (k0 false))
                                            | false => none)
                                          | none => none)
                                        | false => none)
                                      | none => none)
                                    | false => (k0 false)))))))))))) x0 x1 x2 x3 x4 x5 x6 x7 x8 x9 xa xb xc xd xe xf xg xh xi xj xk xl xm xn xo (A.on 0) 0)))))
def F94_0 {β : Type} (A : Pr) (B : Pk) (N : Nat) (x0 x1 x2 x3 x4 x5 : Int) (x6 : List R) (x7 x8 x9 xa xb xc xd : Int) (xe xf xg xh xi xj xk xl : Bool) (xm : List R) (xn xo : Int) (k0 : KB β) : Option β :=
  G94_0 A B (F72_0 A B N) (L94_6_0 A B N N) x0 x1 x2 x3 x4 x5 x6 x7 x8 x9 xa xb xc xd xe xf xg xh xi xj xk xl xm xn xo k0
def P35 : List PT := [(.r (.a [(.i .i64), (.i .i64), (.i .i64), (.i .i64), (.i .i64), (.i .i64), (.ro 4)])), (.r (.a [(.i .i64), (.i .i64), (.i .i64), (.i .i64), (.i .i64), .sn, (.i .i64), (.i .i64), .b, .b, .b, .b, .b, .b, .b, .b, (.ro 1), (.i .i64), (.i .i64)]))]
def M94_0 {β : Type} (f94_0 : Int → Int → Int → Int → Int → Int → List R → Int → Int → Int → Int → Int → Int → Int → Bool → Bool → Bool → Bool → Bool → Bool → Bool → Bool → List R → Int → Int → (KB β) → Option β) (a : List T) : Option ((T → List (List T) → Option β) → Option β) :=
  match gTs P35 a [] with
  | some [.i x0, .i x1, .i x2, .i x3, .i x4, .i x5, .l x6, .i x7, .i x8, .i x9, .i xa, .i xb, .i xc, .i xd, .b xe, .b xf, .b xg, .b xh, .b xi, .b xj, .b xk, .b xl, .l xm, .i xn, .i xo] => some fun kk => f94_0 x0 x1 x2 x3 x4 x5 x6 x7 x8 x9 xa xb xc xd xe xf xg xh xi xj xk xl xm xn xo (fun xp => kk (tB xp) [])
  | _ => none
theorem e94_0 {β : Type} (A : Pr) (B : Pk) (f72_0 : Int → Int → List R → (KB β) → Option β) (l94_6_0 : (Q4 β) → Q5 β) (x0 x1 x2 x3 x4 x5 : Int) (x6 : List R) (x7 x8 x9 xa xb xc xd : Int) (xe xf xg xh xi xj xk xl : Bool) (xm : List R) (xn xo : Int) (kk : T → List (List T) → Option β) :
    uTs P35 [.i x0, .i x1, .i x2, .i x3, .i x4, .i x5, .l x6, .i x7, .i x8, .i x9, .i xa, .i xb, .i xc, .i xd, .b xe, .b xf, .b xg, .b xh, .b xi, .b xj, .b xk, .b xl, .l xm, .i xn, .i xo] (fun a _ => bodyK (mkK Try.prog A B [(72, M72_0 f72_0)] [(6, M94_6 l94_6_0)] (Hn 94).pt []) Try.f94 a kk) = G94_0 A B f72_0 l94_6_0 x0 x1 x2 x3 x4 x5 x6 x7 x8 x9 xa xb xc xd xe xf xg xh xi xj xk xl xm xn xo (fun xp => kk (tB xp) []) := by kernel_rfl
theorem o94_0 {β : Type} (N : Nat) : Snd (β := β) Try.prog Hn 94 (M94_0 (F94_0 re rk N)) := by
  intro a h kk r ha hr
  unfold M94_0 at ha
  split at ha
  · rename_i hs
    cases ha
    have hk := via_pat hs ((e94_0 re rk (F72_0 re rk N) (L94_6_0 re rk N N) _ _ _ _ _ _ _ _ _ _ _ _ _ _ _ _ _ _ _ _ _ _ _ _ _ kk).trans hr)
    exact fn_ok (f := 94) (fn := Try.f94) (H := Hn) (by kernel_rfl) (show SndAll Try.prog Hn [(72, M72_0 (F72_0 re rk N))] from ⟨o72_0 N, trivial⟩) (spots := [.lp X94_6]) (by kernel_rfl) ⟨cut_lp (id := 6) i94_6 (ol94_6 N N) (fun s kk => by kernel_rfl), trivial⟩ hk
  · cases ha
def G60_0 {β : Type} (A : Pr) (B : Pk) (f62_0 : Int → Int → Int → Int → (KB β) → Option β) (x0 x1 x2 x3 x4 x5 x6 x7 : Int) (k0 : K4 β) : Option β :=
    f62_0 (A.mx x0 x4) (A.mx x1 x5) (A.mn x2 x6) (A.mn x3 x7) (fun x8 =>
    match x8 with
      | true => (k0 0 0 0 0)
      | false => (k0 (A.mx x0 x4) (A.mx x1 x5) (A.mn x2 x6) (A.mn x3 x7)))
def F60_0 {β : Type} (A : Pr) (B : Pk) (N : Nat) (x0 x1 x2 x3 x4 x5 x6 x7 : Int) (k0 : K4 β) : Option β :=
  G60_0 A B (F62_0 A B N) x0 x1 x2 x3 x4 x5 x6 x7 k0
def M60_0 {β : Type} (f60_0 : Int → Int → Int → Int → Int → Int → Int → Int → (K4 β) → Option β) (a : List T) : Option ((T → List (List T) → Option β) → Option β) :=
  match gTs P11 a [] with
  | some [.i x0, .i x1, .i x2, .i x3, .i x4, .i x5, .i x6, .i x7] => some fun kk => f60_0 x0 x1 x2 x3 x4 x5 x6 x7 (fun x8 x9 xa xb => kk (T.r (R.a [(R.i .i64 x8), (R.i .i64 x9), (R.i .i64 xa), (R.i .i64 xb)])) [])
  | _ => none
theorem e60_0 {β : Type} (A : Pr) (B : Pk) (f62_0 : Int → Int → Int → Int → (KB β) → Option β) (x0 x1 x2 x3 x4 x5 x6 x7 : Int) (kk : T → List (List T) → Option β) :
    uTs P11 [.i x0, .i x1, .i x2, .i x3, .i x4, .i x5, .i x6, .i x7] (fun a _ => bodyK (mkK Try.prog A B [(62, M62_0 f62_0)] [] (Hn 60).pt []) Try.f60 a kk) = G60_0 A B f62_0 x0 x1 x2 x3 x4 x5 x6 x7 (fun x8 x9 xa xb => kk (T.r (R.a [(R.i .i64 x8), (R.i .i64 x9), (R.i .i64 xa), (R.i .i64 xb)])) []) := by kernel_rfl
theorem o60_0 {β : Type} (N : Nat) : Snd (β := β) Try.prog Hn 60 (M60_0 (F60_0 re rk N)) := by
  intro a h kk r ha hr
  unfold M60_0 at ha
  split at ha
  · rename_i hs
    cases ha
    have hk := via_pat hs ((e60_0 re rk (F62_0 re rk N) _ _ _ _ _ _ _ _ kk).trans hr)
    exact fn_ok (f := 60) (fn := Try.f60) (H := Hn) (by kernel_rfl) (show SndAll Try.prog Hn [(62, M62_0 (F62_0 re rk N))] from ⟨o62_0 N, trivial⟩) (spots := []) (by kernel_rfl) trivial hk
  · cases ha
noncomputable def X95_12 : Code := atF Try.f95 [true, true, true, true, true, true, false, true, false, false, true, false, false, true, false, false]
theorem i95_12 : firstReg X95_12 = 12 := by kernel_rfl
def GL95_12_0 {β : Type} (A : Pr) (B : Pk) (f60_0 : Int → Int → Int → Int → Int → Int → Int → Int → (K4 β) → Option β) (l95_12_0 : (Q0 β) → Q1 β) (k0 : Q0 β) (x0 x1 x2 x3 x4 x5 x6 x7 x8 : Int) (x9 : List R) (xa xb : Int) : Option β :=
    match (A.cm .lss xb x7) with
    | true => (f60_0 x2 x3 x4 x5 (A.ar .mul .i64 xb x0) (A.ar .mul .i64 xa x1) (A.ar .mul .i64 (A.ar .add .i64 xb 1) x0) (A.ar .mul .i64 (A.ar .add .i64 xa 1) x1) (fun xc xd xe xf =>
      match (A.small (A.len (A.app x9 [(R.a [(R.i .i64 xc), (R.i .i64 xd), (R.i .i64 xe), (R.i .i64 xf)])])) 32) with
        | true => (l95_12_0 k0 x0 x1 x2 x3 x4 x5 x6 x7 x8 (A.app x9 [(R.a [(R.i .i64 xc), (R.i .i64 xd), (R.i .i64 xe), (R.i .i64 xf)])]) xa (A.ar .add .i64 xb 1))
        | false => none))
    | false => (k0 x0 x1 x2 x3 x4 x5 x6 x7 x8 x9 xa)
def L95_12_0 {β : Type} (A : Pr) (B : Pk) (N : Nat) : Nat → (Q0 β) → Q1 β
  | 0, _, _, _, _, _, _, _, _, _, _, _, _, _ => none
  | n + 1, k0, x0, x1, x2, x3, x4, x5, x6, x7, x8, x9, xa, xb =>
    GL95_12_0 A B (F60_0 A B N) (L95_12_0 A B N n) k0 x0 x1 x2 x3 x4 x5 x6 x7 x8 x9 xa xb
def P36 : List PT := [.us 1, pI, pI, (.bx [pI, pI, pI, pI]), .us 3, pI, pI, .us 1, pI, (.own true 4), pI, .us 73]
def S36 (x0 x1 x2 x3 x4 x5 x6 x7 x8 : Int) (x9 : List R) (xa : Int) : List T := (T.u :: (tI x0) :: (tI x1) :: (T.bx [(tI x2), (tI x3), (tI x4), (tI x5)]) :: T.u :: T.u :: T.u :: (tI x6) :: (tI x7) :: T.u :: (tI x8) :: (T.own true 4 x9) :: (tI xa) :: T.u :: T.u :: T.u :: T.u :: T.u :: T.u :: T.u :: T.u :: T.u :: T.u :: T.u :: T.u :: T.u :: T.u :: T.u :: T.u :: T.u :: T.u :: T.u :: T.u :: T.u :: T.u :: T.u :: T.u :: T.u :: T.u :: T.u :: T.u :: T.u :: T.u :: T.u :: T.u :: T.u :: T.u :: T.u :: T.u :: T.u :: T.u :: T.u :: T.u :: T.u :: T.u :: T.u :: T.u :: T.u :: T.u :: T.u :: T.u :: T.u :: T.u :: T.u :: T.u :: T.u :: T.u :: T.u :: T.u :: T.u :: T.u :: T.u :: T.u :: T.u :: T.u :: T.u :: T.u :: T.u :: T.u :: T.u :: T.u :: T.u :: T.u :: T.u :: T.u :: T.u :: [])
def P37 : List PT := [.us 1, pI, pI, (.bx [pI, pI, pI, pI]), .us 3, pI, pI, .us 1, pI, (.own true 4), pI, pI, .us 72]
noncomputable def M95_12 {β : Type} (l95_12_0 : (Q0 β) → Q1 β) (s : List T) : Option ((Ex → List T → Option β) → Option β) :=
  match gTs P37 (clean ((Hn 95).lp 12).1 s) [] with
  | some [.i x0, .i x1, .i x2, .i x3, .i x4, .i x5, .i x6, .i x7, .i x8, .l x9, .i xa, .i xb] => some fun kk => l95_12_0 (fun xc xd xe xf xg xh xi xj xk xl xm => kk (Ex.ex 2) (S36 xc xd xe xf xg xh xi xj xk xl xm)) x0 x1 x2 x3 x4 x5 x6 x7 x8 x9 xa xb
  | _ => none
theorem e95_12_0 {β : Type} (A : Pr) (B : Pk) (f60_0 : Int → Int → Int → Int → Int → Int → Int → Int → (K4 β) → Option β) (l95_12_0 : (Q0 β) → Q1 β) (x0 x1 x2 x3 x4 x5 x6 x7 x8 : Int) (x9 : List R) (xa xb : Int) (kk : Ex → List T → Option β) :
    uTs P37 [.i x0, .i x1, .i x2, .i x3, .i x4, .i x5, .i x6, .i x7, .i x8, .l x9, .i xa, .i xb] (fun s _ => evK (mkK Try.prog A B [(60, M60_0 f60_0)] [] (Hn 95).pt []) X95_12 s (fun e s' => match e with
      | .nm => (match M95_12 l95_12_0 s' with | some h => h kk | none => none)
      | .ex m => kk (.ex m) (clean ((Hn 95).lp (firstReg X95_12)).2 s')
      | .rt => kk .rt (clean ((Hn 95).lp (firstReg X95_12)).2 s'))) = GL95_12_0 A B f60_0 l95_12_0 (fun xc xd xe xf xg xh xi xj xk xl xm => kk (Ex.ex 2) (S36 xc xd xe xf xg xh xi xj xk xl xm)) x0 x1 x2 x3 x4 x5 x6 x7 x8 x9 xa xb := by kernel_rfl
theorem ol95_12 {β : Type} (N : Nat) : ∀ n, SndL (β := β) Try.prog Hn (Hn 95) X95_12 (M95_12 (L95_12_0 re rk N n))
  | 0 => by
    intro s h kk r ha hr
    unfold M95_12 at ha
    split at ha
    · cases ha; cases hr
    · cases ha
  | n + 1 => by
    have ih := ol95_12 (β := β) N n
    intro s h kk r ha hr
    unfold M95_12 at ha
    split at ha
    · rename_i hs
      cases ha
      have hk := via_pat hs ((e95_12_0 re rk (F60_0 re rk N) (L95_12_0 re rk N n) _ _ _ _ _ _ _ _ _ _ _ _ kk).trans hr)
      exact round_ok (show SndAll Try.prog Hn [(60, M60_0 (F60_0 re rk N))] from ⟨o60_0 N, trivial⟩) (spots := []) (by kernel_rfl) trivial ih (hd := clean ((Hn 95).lp 12).1 s) (by rw [i95_12]) hk
    · cases ha
noncomputable def X95_9 : Code := atF Try.f95 [true, true, true, true, true, true, false, true, false, false]
theorem i95_9 : firstReg X95_9 = 9 := by kernel_rfl
def GL95_9_0 {β : Type} (A : Pr) (B : Pk) (l95_12_0 : (Q0 β) → Q1 β) (l95_9_0 : (Int → Int → List R → Option β) → Q0 β) (k0 : Int → Int → List R → Option β) (x0 x1 x2 x3 x4 x5 x6 x7 x8 : Int) (x9 : List R) (xa : Int) : Option β :=
    match (A.cm .lss xa x8) with
    | true => (l95_12_0 (fun xb xc xd xe xf xg xh xi xj xk xl =>
      l95_9_0 k0 xb xc xd xe xf xg xh xi xj xk (A.ar .add .i64 xl 1)) x0 x1 x2 x3 x4 x5 x6 x7 x8 x9 xa x6)
    | false => (k0 x0 x1 x9)
def L95_9_0 {β : Type} (A : Pr) (B : Pk) (N : Nat) : Nat → (Int → Int → List R → Option β) → Q0 β
  | 0, _, _, _, _, _, _, _, _, _, _, _, _ => none
  | n + 1, k0, x0, x1, x2, x3, x4, x5, x6, x7, x8, x9, xa =>
    GL95_9_0 A B (L95_12_0 A B N N) (L95_9_0 A B N n) k0 x0 x1 x2 x3 x4 x5 x6 x7 x8 x9 xa
def P38 : List PT := [.us 1, pI, pI, .us 8, (.own true 4), .us 74]
def S38 (x0 x1 : Int) (x2 : List R) : List T := (T.u :: (tI x0) :: (tI x1) :: T.u :: T.u :: T.u :: T.u :: T.u :: T.u :: T.u :: T.u :: (T.own true 4 x2) :: T.u :: T.u :: T.u :: T.u :: T.u :: T.u :: T.u :: T.u :: T.u :: T.u :: T.u :: T.u :: T.u :: T.u :: T.u :: T.u :: T.u :: T.u :: T.u :: T.u :: T.u :: T.u :: T.u :: T.u :: T.u :: T.u :: T.u :: T.u :: T.u :: T.u :: T.u :: T.u :: T.u :: T.u :: T.u :: T.u :: T.u :: T.u :: T.u :: T.u :: T.u :: T.u :: T.u :: T.u :: T.u :: T.u :: T.u :: T.u :: T.u :: T.u :: T.u :: T.u :: T.u :: T.u :: T.u :: T.u :: T.u :: T.u :: T.u :: T.u :: T.u :: T.u :: T.u :: T.u :: T.u :: T.u :: T.u :: T.u :: T.u :: T.u :: T.u :: T.u :: T.u :: T.u :: [])
noncomputable def M95_9 {β : Type} (l95_9_0 : (Int → Int → List R → Option β) → Q0 β) (s : List T) : Option ((Ex → List T → Option β) → Option β) :=
  match gTs P36 (clean ((Hn 95).lp 9).1 s) [] with
  | some [.i x0, .i x1, .i x2, .i x3, .i x4, .i x5, .i x6, .i x7, .i x8, .l x9, .i xa] => some fun kk => l95_9_0 (fun xb xc xd => kk (Ex.ex 0) (S38 xb xc xd)) x0 x1 x2 x3 x4 x5 x6 x7 x8 x9 xa
  | _ => none
theorem e95_9_0 {β : Type} (A : Pr) (B : Pk) (l95_12_0 : (Q0 β) → Q1 β) (l95_9_0 : (Int → Int → List R → Option β) → Q0 β) (x0 x1 x2 x3 x4 x5 x6 x7 x8 : Int) (x9 : List R) (xa : Int) (kk : Ex → List T → Option β) :
    uTs P36 [.i x0, .i x1, .i x2, .i x3, .i x4, .i x5, .i x6, .i x7, .i x8, .l x9, .i xa] (fun s _ => evK (mkK Try.prog A B [] [(12, M95_12 l95_12_0)] (Hn 95).pt []) X95_9 s (fun e s' => match e with
      | .nm => (match M95_9 l95_9_0 s' with | some h => h kk | none => none)
      | .ex m => kk (.ex m) (clean ((Hn 95).lp (firstReg X95_9)).2 s')
      | .rt => kk .rt (clean ((Hn 95).lp (firstReg X95_9)).2 s'))) = GL95_9_0 A B l95_12_0 l95_9_0 (fun xb xc xd => kk (Ex.ex 0) (S38 xb xc xd)) x0 x1 x2 x3 x4 x5 x6 x7 x8 x9 xa := by kernel_rfl
theorem ol95_9 {β : Type} (N : Nat) : ∀ n, SndL (β := β) Try.prog Hn (Hn 95) X95_9 (M95_9 (L95_9_0 re rk N n))
  | 0 => by
    intro s h kk r ha hr
    unfold M95_9 at ha
    split at ha
    · cases ha; cases hr
    · cases ha
  | n + 1 => by
    have ih := ol95_9 (β := β) N n
    intro s h kk r ha hr
    unfold M95_9 at ha
    split at ha
    · rename_i hs
      cases ha
      have hk := via_pat hs ((e95_9_0 re rk (L95_12_0 re rk N N) (L95_9_0 re rk N n) _ _ _ _ _ _ _ _ _ _ _ kk).trans hr)
      exact round_ok (show SndAll Try.prog Hn [] from trivial) (spots := [.lp X95_12]) (by kernel_rfl) ⟨cut_lp (id := 12) i95_12 (ol95_12 N N) (fun s kk => by kernel_rfl), trivial⟩ ih (hd := clean ((Hn 95).lp 9).1 s) (by rw [i95_9]) hk
    · cases ha
def G95_0 {β : Type} (A : Pr) (B : Pk) (f61_0 : Int → Int → Int → Int → (KB β) → Option β) (f62_0 : Int → Int → Int → Int → (KB β) → Option β) (f74_0 : Int → Int → (KI β) → Option β) (f73_0 : Int → Int → (KI β) → Option β) (l95_9_0 : (Int → Int → List R → Option β) → Q0 β) (x0 x1 x2 x3 x4 x5 : Int) (k0 : KL β) : Option β :=
    f61_0 x0 x1 x2 x3 (fun x6 =>
    match (A.bn x6) with
      | true => (k0 [])
      | false => (f62_0 x0 x1 x2 x3 (fun x7 =>
        match x7 with
          | true => (k0 [])
          | false => (match (A.cm .lss x4 1) with
            | true => (k0 [])
            | false => (match (A.cm .lss x5 1) with
              | true => (k0 [])
              | false => (f74_0 x0 x4 (fun x8 =>
                f73_0 x2 x4 (fun x9 =>
                  f74_0 x1 x5 (fun xa =>
                    f73_0 x3 x5 (fun xb =>
                      match (A.cm .gtr (A.ar .mul .i64 (A.ar .sub .i64 x9 x8) (A.ar .sub .i64 xb xa)) 65536) with
                        | true => (k0 [])
                        | false => (l95_9_0 (fun xc xd xe =>
                          k0 xe) x4 x5 x0 x1 x2 x3 x8 x9 xb [] xa)))))))))))
def F95_0 {β : Type} (A : Pr) (B : Pk) (N : Nat) (x0 x1 x2 x3 x4 x5 : Int) (k0 : KL β) : Option β :=
  G95_0 A B (F61_0 A B N) (F62_0 A B N) (F74_0 A B N) (F73_0 A B N) (L95_9_0 A B N N) x0 x1 x2 x3 x4 x5 k0
def M95_0 {β : Type} (f95_0 : Int → Int → Int → Int → Int → Int → (KL β) → Option β) (a : List T) : Option ((T → List (List T) → Option β) → Option β) :=
  match gTs P3 a [] with
  | some [.i x0, .i x1, .i x2, .i x3, .i x4, .i x5] => some fun kk => f95_0 x0 x1 x2 x3 x4 x5 (fun x6 => kk (T.own true 4 x6) [])
  | _ => none
theorem e95_0 {β : Type} (A : Pr) (B : Pk) (f61_0 : Int → Int → Int → Int → (KB β) → Option β) (f62_0 : Int → Int → Int → Int → (KB β) → Option β) (f74_0 : Int → Int → (KI β) → Option β) (f73_0 : Int → Int → (KI β) → Option β) (l95_9_0 : (Int → Int → List R → Option β) → Q0 β) (x0 x1 x2 x3 x4 x5 : Int) (kk : T → List (List T) → Option β) :
    uTs P3 [.i x0, .i x1, .i x2, .i x3, .i x4, .i x5] (fun a _ => bodyK (mkK Try.prog A B [(61, M61_0 f61_0), (62, M62_0 f62_0), (74, M74_0 f74_0), (73, M73_0 f73_0)] [(9, M95_9 l95_9_0)] (Hn 95).pt []) Try.f95 a kk) = G95_0 A B f61_0 f62_0 f74_0 f73_0 l95_9_0 x0 x1 x2 x3 x4 x5 (fun x6 => kk (T.own true 4 x6) []) := by kernel_rfl
theorem o95_0 {β : Type} (N : Nat) : Snd (β := β) Try.prog Hn 95 (M95_0 (F95_0 re rk N)) := by
  intro a h kk r ha hr
  unfold M95_0 at ha
  split at ha
  · rename_i hs
    cases ha
    have hk := via_pat hs ((e95_0 re rk (F61_0 re rk N) (F62_0 re rk N) (F74_0 re rk N) (F73_0 re rk N) (L95_9_0 re rk N N) _ _ _ _ _ _ kk).trans hr)
    exact fn_ok (f := 95) (fn := Try.f95) (H := Hn) (by kernel_rfl) (show SndAll Try.prog Hn [(61, M61_0 (F61_0 re rk N)), (62, M62_0 (F62_0 re rk N)), (74, M74_0 (F74_0 re rk N)), (73, M73_0 (F73_0 re rk N))] from ⟨o61_0 N, o62_0 N, o74_0 N, o73_0 N, trivial⟩) (spots := [.lp X95_9]) (by kernel_rfl) ⟨cut_lp (id := 9) i95_9 (ol95_9 N N) (fun s kk => by kernel_rfl), trivial⟩ hk
  · cases ha
def G116_0 {β : Type} (A : Pr) (B : Pk) (x0 x1 x2 x3 x4 x5 x6 : Int) (x7 x8 x9 xa xb xc xd xe : Bool) (xf : List R) (xg xh xi : Int) (k0 : Int → Int → Option β) : Option β :=
    match (A.cm .lss xi 0) with
    | true => (k0 0 0)
    | false => (match (A.cm .gtr xi x1) with
      | true => (k0 0 0)
      | false => (match (A.cm .eql (A.on 0) 0) with
        | true => (k0 12 12)
        | false => (match (A.cm .geq xi (A.on 0)) with
          | true => (k0 0 0)
          | false => none)))
def F116_0 {β : Type} (A : Pr) (B : Pk) (N : Nat) (x0 x1 x2 x3 x4 x5 x6 : Int) (x7 x8 x9 xa xb xc xd xe : Bool) (xf : List R) (xg xh xi : Int) (k0 : Int → Int → Option β) : Option β :=
  G116_0 A B  x0 x1 x2 x3 x4 x5 x6 x7 x8 x9 xa xb xc xd xe xf xg xh xi k0
def P39 : List PT := [(.r (.a [(.i .i64), (.i .i64), (.i .i64), (.i .i64), (.i .i64), .sn, (.i .i64), (.i .i64), .b, .b, .b, .b, .b, .b, .b, .b, (.ro 1), (.i .i64), (.i .i64)])), pI]
def M116_0 {β : Type} (f116_0 : Int → Int → Int → Int → Int → Int → Int → Bool → Bool → Bool → Bool → Bool → Bool → Bool → Bool → List R → Int → Int → Int → (Int → Int → Option β) → Option β) (a : List T) : Option ((T → List (List T) → Option β) → Option β) :=
  match gTs P39 a [] with
  | some [.i x0, .i x1, .i x2, .i x3, .i x4, .i x5, .i x6, .b x7, .b x8, .b x9, .b xa, .b xb, .b xc, .b xd, .b xe, .l xf, .i xg, .i xh, .i xi] => some fun kk => f116_0 x0 x1 x2 x3 x4 x5 x6 x7 x8 x9 xa xb xc xd xe xf xg xh xi (fun xj xk => kk (T.r (R.a [(R.i .i64 xj), (R.i .i64 xk)])) [])
  | _ => none
theorem e116_0 {β : Type} (A : Pr) (B : Pk) (x0 x1 x2 x3 x4 x5 x6 : Int) (x7 x8 x9 xa xb xc xd xe : Bool) (xf : List R) (xg xh xi : Int) (kk : T → List (List T) → Option β) :
    uTs P39 [.i x0, .i x1, .i x2, .i x3, .i x4, .i x5, .i x6, .b x7, .b x8, .b x9, .b xa, .b xb, .b xc, .b xd, .b xe, .l xf, .i xg, .i xh, .i xi] (fun a _ => bodyK (mkK Try.prog A B [] [] (Hn 116).pt []) Try.f116 a kk) = G116_0 A B  x0 x1 x2 x3 x4 x5 x6 x7 x8 x9 xa xb xc xd xe xf xg xh xi (fun xj xk => kk (T.r (R.a [(R.i .i64 xj), (R.i .i64 xk)])) []) := by kernel_rfl
theorem o116_0 {β : Type} (N : Nat) : Snd (β := β) Try.prog Hn 116 (M116_0 (F116_0 re rk N)) := by
  intro a h kk r ha hr
  unfold M116_0 at ha
  split at ha
  · rename_i hs
    cases ha
    have hk := via_pat hs ((e116_0 re rk  _ _ _ _ _ _ _ _ _ _ _ _ _ _ _ _ _ _ _ kk).trans hr)
    exact fn_ok (f := 116) (fn := Try.f116) (H := Hn) (by kernel_rfl) (show SndAll Try.prog Hn [] from trivial) (spots := []) (by kernel_rfl) trivial hk
  · cases ha
def G132_0 {β : Type} (A : Pr) (B : Pk) (x0 : Int) (k0 : KB β) : Option β :=
    match (A.cm .geq x0 0) with
    | true => (k0 (A.cm .leq x0 5))
    | false => (k0 false)
def F132_0 {β : Type} (A : Pr) (B : Pk) (N : Nat) (x0 : Int) (k0 : KB β) : Option β :=
  G132_0 A B  x0 k0
def P40 : List PT := [pI]
def M132_0 {β : Type} (f132_0 : Int → (KB β) → Option β) (a : List T) : Option ((T → List (List T) → Option β) → Option β) :=
  match gTs P40 a [] with
  | some [.i x0] => some fun kk => f132_0 x0 (fun x1 => kk (tB x1) [])
  | _ => none
theorem e132_0 {β : Type} (A : Pr) (B : Pk) (x0 : Int) (kk : T → List (List T) → Option β) :
    uTs P40 [.i x0] (fun a _ => bodyK (mkK Try.prog A B [] [] (Hn 132).pt []) Try.f132 a kk) = G132_0 A B  x0 (fun x1 => kk (tB x1) []) := by kernel_rfl
theorem o132_0 {β : Type} (N : Nat) : Snd (β := β) Try.prog Hn 132 (M132_0 (F132_0 re rk N)) := by
  intro a h kk r ha hr
  unfold M132_0 at ha
  split at ha
  · rename_i hs
    cases ha
    have hk := via_pat hs ((e132_0 re rk  _ kk).trans hr)
    exact fn_ok (f := 132) (fn := Try.f132) (H := Hn) (by kernel_rfl) (show SndAll Try.prog Hn [] from trivial) (spots := []) (by kernel_rfl) trivial hk
  · cases ha
def G118_0 {β : Type} (A : Pr) (B : Pk) (f132_0 : Int → (KB β) → Option β) (f47_0 : Int → Int → Int → Int → Int → Int → (K4 β) → Option β) (x0 x1 x2 x3 x4 x5 : Int) (k0 : K4 β) : Option β :=
    f132_0 x4 (fun x6 =>
    match (A.bn x6) with
      | true => (k0 0 0 0 0)
      | false => (match (A.cm .lss x5 0) with
        | true => (k0 0 0 0 0)
        | false => (match (A.cm .gtr x5 x4) with
          | true => (k0 0 0 0 0)
          | false => (match (A.sh (A.cv .u64 (A.ar .sub .i64 x4 x5))) with
            | true => (f47_0 x0 x1 x2 x3 (A.ar .shl .i64 1 (A.cv .u64 (A.ar .sub .i64 x4 x5))) (A.ar .shl .i64 1 (A.cv .u64 (A.ar .sub .i64 x4 x5))) (fun x7 x8 x9 xa =>
              k0 x7 x8 x9 xa))
            | false => none))))
def F118_0 {β : Type} (A : Pr) (B : Pk) (N : Nat) (x0 x1 x2 x3 x4 x5 : Int) (k0 : K4 β) : Option β :=
  G118_0 A B (F132_0 A B N) (F47_0 A B N) x0 x1 x2 x3 x4 x5 k0
def M118_0 {β : Type} (f118_0 : Int → Int → Int → Int → Int → Int → (K4 β) → Option β) (a : List T) : Option ((T → List (List T) → Option β) → Option β) :=
  match gTs P3 a [] with
  | some [.i x0, .i x1, .i x2, .i x3, .i x4, .i x5] => some fun kk => f118_0 x0 x1 x2 x3 x4 x5 (fun x6 x7 x8 x9 => kk (T.r (R.a [(R.i .i64 x6), (R.i .i64 x7), (R.i .i64 x8), (R.i .i64 x9)])) [])
  | _ => none
theorem e118_0 {β : Type} (A : Pr) (B : Pk) (f132_0 : Int → (KB β) → Option β) (f47_0 : Int → Int → Int → Int → Int → Int → (K4 β) → Option β) (x0 x1 x2 x3 x4 x5 : Int) (kk : T → List (List T) → Option β) :
    uTs P3 [.i x0, .i x1, .i x2, .i x3, .i x4, .i x5] (fun a _ => bodyK (mkK Try.prog A B [(132, M132_0 f132_0), (47, M47_0 f47_0)] [] (Hn 118).pt []) Try.f118 a kk) = G118_0 A B f132_0 f47_0 x0 x1 x2 x3 x4 x5 (fun x6 x7 x8 x9 => kk (T.r (R.a [(R.i .i64 x6), (R.i .i64 x7), (R.i .i64 x8), (R.i .i64 x9)])) []) := by kernel_rfl
theorem o118_0 {β : Type} (N : Nat) : Snd (β := β) Try.prog Hn 118 (M118_0 (F118_0 re rk N)) := by
  intro a h kk r ha hr
  unfold M118_0 at ha
  split at ha
  · rename_i hs
    cases ha
    have hk := via_pat hs ((e118_0 re rk (F132_0 re rk N) (F47_0 re rk N) _ _ _ _ _ _ kk).trans hr)
    exact fn_ok (f := 118) (fn := Try.f118) (H := Hn) (by kernel_rfl) (show SndAll Try.prog Hn [(132, M132_0 (F132_0 re rk N)), (47, M47_0 (F47_0 re rk N))] from ⟨o132_0 N, o47_0 N, trivial⟩) (spots := []) (by kernel_rfl) trivial hk
  · cases ha
def G117_0 {β : Type} (A : Pr) (B : Pk) (f62_0 : Int → Int → Int → Int → (KB β) → Option β) (f73_0 : Int → Int → (KI β) → Option β) (f74_0 : Int → Int → (KI β) → Option β) (x0 x1 x2 x3 x4 x5 : Int) (k0 : KI β) : Option β :=
    f62_0 x0 x1 x2 x3 (fun x6 =>
    match x6 with
      | true => (k0 0)
      | false => (match (A.sh (A.cv .u64 x4)) with
        | true => (match (A.sh (A.cv .u64 x5)) with
          | true => (f73_0 x2 (A.ar .shl .i64 1 (A.cv .u64 x4)) (fun x7 =>
            f74_0 x0 (A.ar .shl .i64 1 (A.cv .u64 x4)) (fun x8 =>
              f73_0 x3 (A.ar .shl .i64 1 (A.cv .u64 x5)) (fun x9 =>
                f74_0 x1 (A.ar .shl .i64 1 (A.cv .u64 x5)) (fun xa =>
                  k0 (A.ar .mul .i64 (A.ar .sub .i64 x7 x8) (A.ar .sub .i64 x9 xa)))))))
          | false => none)
        | false => none))
def F117_0 {β : Type} (A : Pr) (B : Pk) (N : Nat) (x0 x1 x2 x3 x4 x5 : Int) (k0 : KI β) : Option β :=
  G117_0 A B (F62_0 A B N) (F73_0 A B N) (F74_0 A B N) x0 x1 x2 x3 x4 x5 k0
def M117_0 {β : Type} (f117_0 : Int → Int → Int → Int → Int → Int → (KI β) → Option β) (a : List T) : Option ((T → List (List T) → Option β) → Option β) :=
  match gTs P3 a [] with
  | some [.i x0, .i x1, .i x2, .i x3, .i x4, .i x5] => some fun kk => f117_0 x0 x1 x2 x3 x4 x5 (fun x6 => kk (tI x6) [])
  | _ => none
theorem e117_0 {β : Type} (A : Pr) (B : Pk) (f62_0 : Int → Int → Int → Int → (KB β) → Option β) (f73_0 : Int → Int → (KI β) → Option β) (f74_0 : Int → Int → (KI β) → Option β) (x0 x1 x2 x3 x4 x5 : Int) (kk : T → List (List T) → Option β) :
    uTs P3 [.i x0, .i x1, .i x2, .i x3, .i x4, .i x5] (fun a _ => bodyK (mkK Try.prog A B [(62, M62_0 f62_0), (73, M73_0 f73_0), (74, M74_0 f74_0)] [] (Hn 117).pt []) Try.f117 a kk) = G117_0 A B f62_0 f73_0 f74_0 x0 x1 x2 x3 x4 x5 (fun x6 => kk (tI x6) []) := by kernel_rfl
theorem o117_0 {β : Type} (N : Nat) : Snd (β := β) Try.prog Hn 117 (M117_0 (F117_0 re rk N)) := by
  intro a h kk r ha hr
  unfold M117_0 at ha
  split at ha
  · rename_i hs
    cases ha
    have hk := via_pat hs ((e117_0 re rk (F62_0 re rk N) (F73_0 re rk N) (F74_0 re rk N) _ _ _ _ _ _ kk).trans hr)
    exact fn_ok (f := 117) (fn := Try.f117) (H := Hn) (by kernel_rfl) (show SndAll Try.prog Hn [(62, M62_0 (F62_0 re rk N)), (73, M73_0 (F73_0 re rk N)), (74, M74_0 (F74_0 re rk N))] from ⟨o62_0 N, o73_0 N, o74_0 N, trivial⟩) (spots := []) (by kernel_rfl) trivial hk
  · cases ha
def G119_0 {β : Type} (A : Pr) (B : Pk) (f132_0 : Int → (KB β) → Option β) (x0 x1 : Int) (k0 : KL β) : Option β :=
    f132_0 x0 (fun x2 =>
    match (A.bn x2) with
      | true => (k0 [])
      | false => (match (A.cm .lss x1 0) with
        | true => (k0 [])
        | false => (match (A.cm .gtr x1 x0) with
          | true => (k0 [])
          | false => (match (A.cm .eql x1 0) with
            | true => (k0 [(R.i .i64 0)])
            | false => (k0 [(R.i .i64 (A.ar .sub .i64 (A.ar .mul .i64 3 x1) 2)), (R.i .i64 (A.ar .sub .i64 (A.ar .mul .i64 3 x1) 1)), (R.i .i64 (A.ar .mul .i64 3 x1))])))))
def F119_0 {β : Type} (A : Pr) (B : Pk) (N : Nat) (x0 x1 : Int) (k0 : KL β) : Option β :=
  G119_0 A B (F132_0 A B N) x0 x1 k0
def M119_0 {β : Type} (f119_0 : Int → Int → (KL β) → Option β) (a : List T) : Option ((T → List (List T) → Option β) → Option β) :=
  match gTs P2 a [] with
  | some [.i x0, .i x1] => some fun kk => f119_0 x0 x1 (fun x2 => kk (T.own true 1 x2) [])
  | _ => none
theorem e119_0 {β : Type} (A : Pr) (B : Pk) (f132_0 : Int → (KB β) → Option β) (x0 x1 : Int) (kk : T → List (List T) → Option β) :
    uTs P2 [.i x0, .i x1] (fun a _ => bodyK (mkK Try.prog A B [(132, M132_0 f132_0)] [] (Hn 119).pt []) Try.f119 a kk) = G119_0 A B f132_0 x0 x1 (fun x2 => kk (T.own true 1 x2) []) := by kernel_rfl
theorem o119_0 {β : Type} (N : Nat) : Snd (β := β) Try.prog Hn 119 (M119_0 (F119_0 re rk N)) := by
  intro a h kk r ha hr
  unfold M119_0 at ha
  split at ha
  · rename_i hs
    cases ha
    have hk := via_pat hs ((e119_0 re rk (F132_0 re rk N) _ _ kk).trans hr)
    exact fn_ok (f := 119) (fn := Try.f119) (H := Hn) (by kernel_rfl) (show SndAll Try.prog Hn [(132, M132_0 (F132_0 re rk N))] from ⟨o132_0 N, trivial⟩) (spots := []) (by kernel_rfl) trivial hk
  · cases ha
def G138_0 {β : Type} (A : Pr) (B : Pk) (f132_0 : Int → (KB β) → Option β) (x0 : Int) (k0 : KI β) : Option β :=
    f132_0 x0 (fun x1 =>
    match (A.bn x1) with
      | true => (k0 0)
      | false => (k0 (A.ar .add .i64 (A.ar .mul .i64 3 x0) 1)))
def F138_0 {β : Type} (A : Pr) (B : Pk) (N : Nat) (x0 : Int) (k0 : KI β) : Option β :=
  G138_0 A B (F132_0 A B N) x0 k0
def M138_0 {β : Type} (f138_0 : Int → (KI β) → Option β) (a : List T) : Option ((T → List (List T) → Option β) → Option β) :=
  match gTs P40 a [] with
  | some [.i x0] => some fun kk => f138_0 x0 (fun x1 => kk (tI x1) [])
  | _ => none
theorem e138_0 {β : Type} (A : Pr) (B : Pk) (f132_0 : Int → (KB β) → Option β) (x0 : Int) (kk : T → List (List T) → Option β) :
    uTs P40 [.i x0] (fun a _ => bodyK (mkK Try.prog A B [(132, M132_0 f132_0)] [] (Hn 138).pt []) Try.f138 a kk) = G138_0 A B f132_0 x0 (fun x1 => kk (tI x1) []) := by kernel_rfl
theorem o138_0 {β : Type} (N : Nat) : Snd (β := β) Try.prog Hn 138 (M138_0 (F138_0 re rk N)) := by
  intro a h kk r ha hr
  unfold M138_0 at ha
  split at ha
  · rename_i hs
    cases ha
    have hk := via_pat hs ((e138_0 re rk (F132_0 re rk N) _ kk).trans hr)
    exact fn_ok (f := 138) (fn := Try.f138) (H := Hn) (by kernel_rfl) (show SndAll Try.prog Hn [(132, M132_0 (F132_0 re rk N))] from ⟨o132_0 N, trivial⟩) (spots := []) (by kernel_rfl) trivial hk
  · cases ha
def G133_0 {β : Type} (A : Pr) (B : Pk) (f138_0 : Int → (KI β) → Option β) (x0 x1 : Int) (k0 : Int → Int → Bool → Option β) : Option β :=
    match (A.cm .lss x0 0) with
    | true => (k0 0 0 false)
    | false => (f138_0 x1 (fun x2 =>
      match (A.cm .geq x0 x2) with
        | true => (k0 0 0 false)
        | false => (match (A.cm .eql x0 0) with
          | true => (k0 x1 0 true)
          | false => (match (A.nz 3) with
            | true => none
            | false => (k0 (A.ar .add .i64 (A.ar .sub .i64 x1 (A.ar .quo .i64 (A.ar .add .i64 x0 2) 3)) 1) (A.ar .add .i64 (A.ar .sub .i64 x0 (A.ar .mul .i64 3 (A.ar .quo .i64 (A.ar .add .i64 x0 2) 3))) 3) true)))))
def F133_0 {β : Type} (A : Pr) (B : Pk) (N : Nat) (x0 x1 : Int) (k0 : Int → Int → Bool → Option β) : Option β :=
  G133_0 A B (F138_0 A B N) x0 x1 k0
def M133_0 {β : Type} (f133_0 : Int → Int → (Int → Int → Bool → Option β) → Option β) (a : List T) : Option ((T → List (List T) → Option β) → Option β) :=
  match gTs P2 a [] with
  | some [.i x0, .i x1] => some fun kk => f133_0 x0 x1 (fun x2 x3 x4 => kk (T.tp true [(tI x2), (tI x3), (tB x4)]) [])
  | _ => none
theorem e133_0 {β : Type} (A : Pr) (B : Pk) (f138_0 : Int → (KI β) → Option β) (x0 x1 : Int) (kk : T → List (List T) → Option β) :
    uTs P2 [.i x0, .i x1] (fun a _ => bodyK (mkK Try.prog A B [(138, M138_0 f138_0)] [] (Hn 133).pt []) Try.f133 a kk) = G133_0 A B f138_0 x0 x1 (fun x2 x3 x4 => kk (T.tp true [(tI x2), (tI x3), (tB x4)]) []) := by kernel_rfl
theorem o133_0 {β : Type} (N : Nat) : Snd (β := β) Try.prog Hn 133 (M133_0 (F133_0 re rk N)) := by
  intro a h kk r ha hr
  unfold M133_0 at ha
  split at ha
  · rename_i hs
    cases ha
    have hk := via_pat hs ((e133_0 re rk (F138_0 re rk N) _ _ kk).trans hr)
    exact fn_ok (f := 133) (fn := Try.f133) (H := Hn) (by kernel_rfl) (show SndAll Try.prog Hn [(138, M138_0 (F138_0 re rk N))] from ⟨o138_0 N, trivial⟩) (spots := []) (by kernel_rfl) trivial hk
  · cases ha
noncomputable def X134_5 : Code := atF Try.f134 [true, true, true, false, true, false, false]
theorem i134_5 : firstReg X134_5 = 5 := by kernel_rfl
def GL134_5_0 {β : Type} (A : Pr) (B : Pk) (l134_5_0 : (Q6 β) → Q7 β) (k0 : Q6 β) (x0 x1 x2 x3 x4 x5 x6 x7 x8 x9 xa xb xc xd xe xf xg xh xi xj xk xl xm xn xo xp xq xr xs xt xu xv xw xx xy xz x10 : Int) : Option β :=
    match (A.cm .lss x10 4) with
    | true => (match (A.sh 1) with
      | true => (match (A.nz 2) with
        | true => none
        | false => (match (A.nz 2) with
          | true => none
          | false => (match (A.nz 2) with
            | true => none
            | false => (match (A.nz 2) with
              | true => none
              | false => (match (A.cm .eql x10 0) with
                | true => (l134_5_0 k0 x0 x1 x2 x3 x4 x5 x6 x7 x8 x9 xa xb xc xd xe xf xg xh xi xj (A.ar .quo .i64 (A.ar .add .i64 x0 (A.ar .sub .i64 1 (A.ar .and .i64 x10 1))) 2) (A.ar .quo .i64 (A.ar .add .i64 x1 (A.ar .sub .i64 1 (A.ar .shr .i64 x10 1))) 2) (A.ar .quo .i64 (A.ar .add .i64 x2 (A.ar .sub .i64 1 (A.ar .and .i64 x10 1))) 2) (A.ar .quo .i64 (A.ar .add .i64 x3 (A.ar .sub .i64 1 (A.ar .shr .i64 x10 1))) 2) xo xp xq xr xs xt xu xv xw xx xy xz (A.ar .add .i64 x10 1))
                | false => (match (A.cm .eql x10 1) with
                  | true => (l134_5_0 k0 x0 x1 x2 x3 x4 x5 x6 x7 x8 x9 xa xb xc xd xe xf xg xh xi xj xk xl xm xn (A.ar .quo .i64 (A.ar .add .i64 x0 (A.ar .sub .i64 1 (A.ar .and .i64 x10 1))) 2) (A.ar .quo .i64 (A.ar .add .i64 x1 (A.ar .sub .i64 1 (A.ar .shr .i64 x10 1))) 2) (A.ar .quo .i64 (A.ar .add .i64 x2 (A.ar .sub .i64 1 (A.ar .and .i64 x10 1))) 2) (A.ar .quo .i64 (A.ar .add .i64 x3 (A.ar .sub .i64 1 (A.ar .shr .i64 x10 1))) 2) xs xt xu xv xw xx xy xz (A.ar .add .i64 x10 1))
                  | false => (match (A.cm .eql x10 2) with
                    | true => (l134_5_0 k0 x0 x1 x2 x3 x4 x5 x6 x7 x8 x9 xa xb xc xd xe xf xg xh xi xj xk xl xm xn xo xp xq xr (A.ar .quo .i64 (A.ar .add .i64 x0 (A.ar .sub .i64 1 (A.ar .and .i64 x10 1))) 2) (A.ar .quo .i64 (A.ar .add .i64 x1 (A.ar .sub .i64 1 (A.ar .shr .i64 x10 1))) 2) (A.ar .quo .i64 (A.ar .add .i64 x2 (A.ar .sub .i64 1 (A.ar .and .i64 x10 1))) 2) (A.ar .quo .i64 (A.ar .add .i64 x3 (A.ar .sub .i64 1 (A.ar .shr .i64 x10 1))) 2) xw xx xy xz (A.ar .add .i64 x10 1))
                    | false => (match (A.cm .eql x10 3) with
                      | true => (l134_5_0 k0 x0 x1 x2 x3 x4 x5 x6 x7 x8 x9 xa xb xc xd xe xf xg xh xi xj xk xl xm xn xo xp xq xr xs xt xu xv (A.ar .quo .i64 (A.ar .add .i64 x0 (A.ar .sub .i64 1 (A.ar .and .i64 x10 1))) 2) (A.ar .quo .i64 (A.ar .add .i64 x1 (A.ar .sub .i64 1 (A.ar .shr .i64 x10 1))) 2) (A.ar .quo .i64 (A.ar .add .i64 x2 (A.ar .sub .i64 1 (A.ar .and .i64 x10 1))) 2) (A.ar .quo .i64 (A.ar .add .i64 x3 (A.ar .sub .i64 1 (A.ar .shr .i64 x10 1))) 2) (A.ar .add .i64 x10 1))
                      | false => none))))))))
      | false => none)
    | false => (k0 x4 x5 x6 x7 x8 x9 xa xb xc xd xe xf xg xh xi xj xk xl xm xn xo xp xq xr xs xt xu xv xw xx xy xz)
def L134_5_0 {β : Type} (A : Pr) (B : Pk) (N : Nat) : Nat → (Q6 β) → Q7 β
  | 0, _, _, _, _, _, _, _, _, _, _, _, _, _, _, _, _, _, _, _, _, _, _, _, _, _, _, _, _, _, _, _, _, _, _, _, _, _, _ => none
  | n + 1, k0, x0, x1, x2, x3, x4, x5, x6, x7, x8, x9, xa, xb, xc, xd, xe, xf, xg, xh, xi, xj, xk, xl, xm, xn, xo, xp, xq, xr, xs, xt, xu, xv, xw, xx, xy, xz, x10 =>
    GL134_5_0 A B (L134_5_0 A B N n) k0 x0 x1 x2 x3 x4 x5 x6 x7 x8 x9 xa xb xc xd xe xf xg xh xi xj xk xl xm xn xo xp xq xr xs xt xu xv xw xx xy xz x10
def P41 : List PT := [.us 2, (.bx [pI, pI, pI, pI, pI, pI, pI, pI, pI, pI, pI, pI, pI, pI, pI, pI]), (.bx [pI, pI, pI, pI, pI, pI, pI, pI, pI, pI, pI, pI, pI, pI, pI, pI]), .us 41]
def S41 (x0 x1 x2 x3 x4 x5 x6 x7 x8 x9 xa xb xc xd xe xf xg xh xi xj xk xl xm xn xo xp xq xr xs xt xu xv : Int) : List T := (T.u :: T.u :: (T.bx [(tI x0), (tI x1), (tI x2), (tI x3), (tI x4), (tI x5), (tI x6), (tI x7), (tI x8), (tI x9), (tI xa), (tI xb), (tI xc), (tI xd), (tI xe), (tI xf)]) :: (T.bx [(tI xg), (tI xh), (tI xi), (tI xj), (tI xk), (tI xl), (tI xm), (tI xn), (tI xo), (tI xp), (tI xq), (tI xr), (tI xs), (tI xt), (tI xu), (tI xv)]) :: T.u :: T.u :: T.u :: T.u :: T.u :: T.u :: T.u :: T.u :: T.u :: T.u :: T.u :: T.u :: T.u :: T.u :: T.u :: T.u :: T.u :: T.u :: T.u :: T.u :: T.u :: T.u :: T.u :: T.u :: T.u :: T.u :: T.u :: T.u :: T.u :: T.u :: T.u :: T.u :: T.u :: T.u :: T.u :: T.u :: T.u :: T.u :: T.u :: T.u :: T.u :: [])
def P42 : List PT := [.us 1, (.bx [pI, pI, pI, pI]), (.bx [pI, pI, pI, pI, pI, pI, pI, pI, pI, pI, pI, pI, pI, pI, pI, pI]), (.bx [pI, pI, pI, pI, pI, pI, pI, pI, pI, pI, pI, pI, pI, pI, pI, pI]), .us 7, pI, .us 33]
noncomputable def M134_5 {β : Type} (l134_5_0 : (Q6 β) → Q7 β) (s : List T) : Option ((Ex → List T → Option β) → Option β) :=
  match gTs P42 (clean ((Hn 134).lp 5).1 s) [] with
  | some (.i x0 :: .i x1 :: .i x2 :: .i x3 :: .i x4 :: .i x5 :: .i x6 :: .i x7 :: .i x8 :: .i x9 :: .i xa :: .i xb :: .i xc :: .i xd :: .i xe :: .i xf :: .i xg :: .i xh :: .i xi :: .i xj :: .i xk :: .i xl :: .i xm :: .i xn :: .i xo :: .i xp :: .i xq :: .i xr :: .i xs :: .i xt :: .i xu :: .i xv :: .i xw :: .i xx :: .i xy :: .i xz :: .i x10 :: []) => some fun kk => l134_5_0 (fun x11 x12 x13 x14 x15 x16 x17 x18 x19 x1a x1b x1c x1d x1e x1f x1g x1h x1i x1j x1k x1l x1m x1n x1o x1p x1q x1r x1s x1t x1u x1v x1w => kk (Ex.ex 0) (S41 x11 x12 x13 x14 x15 x16 x17 x18 x19 x1a x1b x1c x1d x1e x1f x1g x1h x1i x1j x1k x1l x1m x1n x1o x1p x1q x1r x1s x1t x1u x1v x1w)) x0 x1 x2 x3 x4 x5 x6 x7 x8 x9 xa xb xc xd xe xf xg xh xi xj xk xl xm xn xo xp xq xr xs xt xu xv xw xx xy xz x10
  | _ => none
theorem e134_5_0 {β : Type} (A : Pr) (B : Pk) (l134_5_0 : (Q6 β) → Q7 β) (x0 x1 x2 x3 x4 x5 x6 x7 x8 x9 xa xb xc xd xe xf xg xh xi xj xk xl xm xn xo xp xq xr xs xt xu xv xw xx xy xz x10 : Int) (kk : Ex → List T → Option β) :
    uTs P42 (.i x0 :: .i x1 :: .i x2 :: .i x3 :: .i x4 :: .i x5 :: .i x6 :: .i x7 :: .i x8 :: .i x9 :: .i xa :: .i xb :: .i xc :: .i xd :: .i xe :: .i xf :: .i xg :: .i xh :: .i xi :: .i xj :: .i xk :: .i xl :: .i xm :: .i xn :: .i xo :: .i xp :: .i xq :: .i xr :: .i xs :: .i xt :: .i xu :: .i xv :: .i xw :: .i xx :: .i xy :: .i xz :: .i x10 :: []) (fun s _ => evK (mkK Try.prog A B [] [] (Hn 134).pt []) X134_5 s (fun e s' => match e with
      | .nm => (match M134_5 l134_5_0 s' with | some h => h kk | none => none)
      | .ex m => kk (.ex m) (clean ((Hn 134).lp (firstReg X134_5)).2 s')
      | .rt => kk .rt (clean ((Hn 134).lp (firstReg X134_5)).2 s'))) = GL134_5_0 A B l134_5_0 (fun x11 x12 x13 x14 x15 x16 x17 x18 x19 x1a x1b x1c x1d x1e x1f x1g x1h x1i x1j x1k x1l x1m x1n x1o x1p x1q x1r x1s x1t x1u x1v x1w => kk (Ex.ex 0) (S41 x11 x12 x13 x14 x15 x16 x17 x18 x19 x1a x1b x1c x1d x1e x1f x1g x1h x1i x1j x1k x1l x1m x1n x1o x1p x1q x1r x1s x1t x1u x1v x1w)) x0 x1 x2 x3 x4 x5 x6 x7 x8 x9 xa xb xc xd xe xf xg xh xi xj xk xl xm xn xo xp xq xr xs xt xu xv xw xx xy xz x10 := by kernel_rfl
theorem ol134_5 {β : Type} (N : Nat) : ∀ n, SndL (β := β) Try.prog Hn (Hn 134) X134_5 (M134_5 (L134_5_0 re rk N n))
  | 0 => by
    intro s h kk r ha hr
    unfold M134_5 at ha
    split at ha
    · cases ha; cases hr
    · cases ha
  | n + 1 => by
    have ih := ol134_5 (β := β) N n
    intro s h kk r ha hr
    unfold M134_5 at ha
    split at ha
    · rename_i hs
      cases ha
      have hk := via_pat hs ((e134_5_0 re rk (L134_5_0 re rk N n) _ _ _ _ _ _ _ _ _ _ _ _ _ _ _ _ _ _ _ _ _ _ _ _ _ _ _ _ _ _ _ _ _ _ _ _ _ kk).trans hr)
      exact round_ok (show SndAll Try.prog Hn [] from trivial) (spots := []) (by kernel_rfl) trivial ih (hd := clean ((Hn 134).lp 5).1 s) (by rw [i134_5]) hk
    · cases ha
def G134_0 {β : Type} (A : Pr) (B : Pk) (f61_0 : Int → Int → Int → Int → (KB β) → Option β) (l134_5_0 : (Q6 β) → Q7 β) (x0 x1 x2 x3 : Int) (k0 : Q8 β) : Option β :=
    f61_0 x0 x1 x2 x3 (fun x4 =>
    match (A.bn x4) with
      | true => (k0 0 0 0 0 0 0 0 0 0 0 0 0 0 0 0 0)
      | false => (l134_5_0 (fun x5 x6 x7 x8 x9 xa xb xc xd xe xf xg xh xi xj xk xl xm xn xo xp xq xr xs xt xu xv xw xx xy xz x10 =>
        k0 xl xm xn xo xp xq xr xs xt xu xv xw xx xy xz x10) x0 x1 x2 x3 0 0 0 0 0 0 0 0 0 0 0 0 0 0 0 0 0 0 0 0 0 0 0 0 0 0 0 0 0 0 0 0 0))
def F134_0 {β : Type} (A : Pr) (B : Pk) (N : Nat) (x0 x1 x2 x3 : Int) (k0 : Q8 β) : Option β :=
  G134_0 A B (F61_0 A B N) (L134_5_0 A B N N) x0 x1 x2 x3 k0
def M134_0 {β : Type} (f134_0 : Int → Int → Int → Int → (Q8 β) → Option β) (a : List T) : Option ((T → List (List T) → Option β) → Option β) :=
  match gTs P0 a [] with
  | some [.i x0, .i x1, .i x2, .i x3] => some fun kk => f134_0 x0 x1 x2 x3 (fun x4 x5 x6 x7 x8 x9 xa xb xc xd xe xf xg xh xi xj => kk (T.r (R.a [(R.i .i64 x4), (R.i .i64 x5), (R.i .i64 x6), (R.i .i64 x7), (R.i .i64 x8), (R.i .i64 x9), (R.i .i64 xa), (R.i .i64 xb), (R.i .i64 xc), (R.i .i64 xd), (R.i .i64 xe), (R.i .i64 xf), (R.i .i64 xg), (R.i .i64 xh), (R.i .i64 xi), (R.i .i64 xj)])) [])
  | _ => none
theorem e134_0 {β : Type} (A : Pr) (B : Pk) (f61_0 : Int → Int → Int → Int → (KB β) → Option β) (l134_5_0 : (Q6 β) → Q7 β) (x0 x1 x2 x3 : Int) (kk : T → List (List T) → Option β) :
    uTs P0 [.i x0, .i x1, .i x2, .i x3] (fun a _ => bodyK (mkK Try.prog A B [(61, M61_0 f61_0)] [(5, M134_5 l134_5_0)] (Hn 134).pt []) Try.f134 a kk) = G134_0 A B f61_0 l134_5_0 x0 x1 x2 x3 (fun x4 x5 x6 x7 x8 x9 xa xb xc xd xe xf xg xh xi xj => kk (T.r (R.a [(R.i .i64 x4), (R.i .i64 x5), (R.i .i64 x6), (R.i .i64 x7), (R.i .i64 x8), (R.i .i64 x9), (R.i .i64 xa), (R.i .i64 xb), (R.i .i64 xc), (R.i .i64 xd), (R.i .i64 xe), (R.i .i64 xf), (R.i .i64 xg), (R.i .i64 xh), (R.i .i64 xi), (R.i .i64 xj)])) []) := by kernel_rfl
theorem o134_0 {β : Type} (N : Nat) : Snd (β := β) Try.prog Hn 134 (M134_0 (F134_0 re rk N)) := by
  intro a h kk r ha hr
  unfold M134_0 at ha
  split at ha
  · rename_i hs
    cases ha
    have hk := via_pat hs ((e134_0 re rk (F61_0 re rk N) (L134_5_0 re rk N N) _ _ _ _ kk).trans hr)
    exact fn_ok (f := 134) (fn := Try.f134) (H := Hn) (by kernel_rfl) (show SndAll Try.prog Hn [(61, M61_0 (F61_0 re rk N))] from ⟨o61_0 N, trivial⟩) (spots := [.lp X134_5]) (by kernel_rfl) ⟨cut_lp (id := 5) i134_5 (ol134_5 N N) (fun s kk => by kernel_rfl), trivial⟩ hk
  · cases ha
def G120_0 {β : Type} (A : Pr) (B : Pk) (f133_0 : Int → Int → (Int → Int → Bool → Option β) → Option β) (f61_0 : Int → Int → Int → Int → (KB β) → Option β) (f118_0 : Int → Int → Int → Int → Int → Int → (K4 β) → Option β) (f134_0 : Int → Int → Int → Int → (Q8 β) → Option β) (x0 x1 x2 x3 x4 x5 : Int) (k0 : K4 β) : Option β :=
    f133_0 x5 x4 (fun x6 x7 x8 =>
    match (A.bn x8) with
      | true => (k0 0 0 0 0)
      | false => (f61_0 x0 x1 x2 x3 (fun x9 =>
        match (A.bn x9) with
          | true => (k0 0 0 0 0)
          | false => (match (A.cm .eql x5 0) with
            | true => (f118_0 x0 x1 x2 x3 x4 0 (fun xa xb xc xd =>
              k0 xa xb xc xd))
            | false => (f118_0 x0 x1 x2 x3 x4 (A.ar .add .i64 (A.ar .sub .i64 x4 x6) 1) (fun xe xf xg xh =>
              f134_0 xe xf xg xh (fun xi xj xk xl xm xn xo xp xq xr xs xt xu xv xw xx =>
                match (A.cm .eql x7 0) with
                  | true => (k0 xi xj xk xl)
                  | false => (match (A.cm .eql x7 1) with
                    | true => (k0 xm xn xo xp)
                    | false => (match (A.cm .eql x7 2) with
                      | true => (k0 xq xr xs xt)
                      | false => (match (A.cm .eql x7 3) with
                        | true => (k0 xu xv xw xx)
                        | false => none))))))))))
def F120_0 {β : Type} (A : Pr) (B : Pk) (N : Nat) (x0 x1 x2 x3 x4 x5 : Int) (k0 : K4 β) : Option β :=
  G120_0 A B (F133_0 A B N) (F61_0 A B N) (F118_0 A B N) (F134_0 A B N) x0 x1 x2 x3 x4 x5 k0
def M120_0 {β : Type} (f120_0 : Int → Int → Int → Int → Int → Int → (K4 β) → Option β) (a : List T) : Option ((T → List (List T) → Option β) → Option β) :=
  match gTs P3 a [] with
  | some [.i x0, .i x1, .i x2, .i x3, .i x4, .i x5] => some fun kk => f120_0 x0 x1 x2 x3 x4 x5 (fun x6 x7 x8 x9 => kk (T.r (R.a [(R.i .i64 x6), (R.i .i64 x7), (R.i .i64 x8), (R.i .i64 x9)])) [])
  | _ => none
theorem e120_0 {β : Type} (A : Pr) (B : Pk) (f133_0 : Int → Int → (Int → Int → Bool → Option β) → Option β) (f61_0 : Int → Int → Int → Int → (KB β) → Option β) (f118_0 : Int → Int → Int → Int → Int → Int → (K4 β) → Option β) (f134_0 : Int → Int → Int → Int → (Q8 β) → Option β) (x0 x1 x2 x3 x4 x5 : Int) (kk : T → List (List T) → Option β) :
    uTs P3 [.i x0, .i x1, .i x2, .i x3, .i x4, .i x5] (fun a _ => bodyK (mkK Try.prog A B [(133, M133_0 f133_0), (61, M61_0 f61_0), (118, M118_0 f118_0), (134, M134_0 f134_0)] [] (Hn 120).pt []) Try.f120 a kk) = G120_0 A B f133_0 f61_0 f118_0 f134_0 x0 x1 x2 x3 x4 x5 (fun x6 x7 x8 x9 => kk (T.r (R.a [(R.i .i64 x6), (R.i .i64 x7), (R.i .i64 x8), (R.i .i64 x9)])) []) := by kernel_rfl
theorem o120_0 {β : Type} (N : Nat) : Snd (β := β) Try.prog Hn 120 (M120_0 (F120_0 re rk N)) := by
  intro a h kk r ha hr
  unfold M120_0 at ha
  split at ha
  · rename_i hs
    cases ha
    have hk := via_pat hs ((e120_0 re rk (F133_0 re rk N) (F61_0 re rk N) (F118_0 re rk N) (F134_0 re rk N) _ _ _ _ _ _ kk).trans hr)
    exact fn_ok (f := 120) (fn := Try.f120) (H := Hn) (by kernel_rfl) (show SndAll Try.prog Hn [(133, M133_0 (F133_0 re rk N)), (61, M61_0 (F61_0 re rk N)), (118, M118_0 (F118_0 re rk N)), (134, M134_0 (F134_0 re rk N))] from ⟨o133_0 N, o61_0 N, o118_0 N, o134_0 N, trivial⟩) (spots := []) (by kernel_rfl) trivial hk
  · cases ha
noncomputable def X96_14 : Code := atF Try.f96 [true, true, false, true, false, false, true, true, false, false, true, true, true, false, false, true, false, false, true, true, true, true, false, false]
theorem i96_14 : firstReg X96_14 = 14 := by kernel_rfl
def GL96_14_0 {β : Type} (A : Pr) (B : Pk) (f120_0 : Int → Int → Int → Int → Int → Int → (K4 β) → Option β) (f117_0 : Int → Int → Int → Int → Int → Int → (KI β) → Option β) (l96_14_0 : (Q9 β) → (Q10 β) → Q11 β) (k0 : Q9 β) (k1 : Q10 β) (x0 x1 x2 x3 x4 x5 x6 : Int) (x7 x8 x9 xa xb xc xd xe : Bool) (xf : List R) (xg xh xi xj xk xl xm xn xo xp xq xr xs xt : Int) (xu : List R) (xv xw : Int) (xx : List R) (xy xz : Int) : Option β :=
    match (A.cm .lss xz xy) with
    | true => (match (A.ix xz (A.len xx)) with
      | some x10 => (match (B.okC [(Sh.i .i64)] xx x10 0) with
        | true => (f120_0 xn xo xp xq x1 (B.ci xx x10 0) (fun x11 x12 x13 x14 =>
          f117_0 x11 x12 x13 x14 (A.mn x3 xs) (A.mn x4 xt) (fun x15 =>
            match (A.cm .gtr x15 65536) with
              | true => (k0 x0 x1 x2 x3 x4 x5 x6 x7 x8 x9 xa xb xc xd xe xf xg xh xi xj xk xl false xm xn xo xp xq xr xu xv xw)
              | false => (l96_14_0 k0 k1 x0 x1 x2 x3 x4 x5 x6 x7 x8 x9 xa xb xc xd xe xf xg xh xi xj xk xl xm xn xo xp xq xr xs xt xu xv xw xx xy (A.ar .add .i64 xz 1)))))
        | false => none)
      | none => none)
    | false => (k1 x0 x1 x2 x3 x4 x5 x6 x7 x8 x9 xa xb xc xd xe xf xg xh xi xj xk xl xm xn xo xp xq xr xu xv xw)
def L96_14_0 {β : Type} (A : Pr) (B : Pk) (N : Nat) : Nat → (Q9 β) → (Q10 β) → Q11 β
  | 0, _, _, _, _, _, _, _, _, _, _, _, _, _, _, _, _, _, _, _, _, _, _, _, _, _, _, _, _, _, _, _, _, _, _, _, _, _, _ => none
  | n + 1, k0, k1, x0, x1, x2, x3, x4, x5, x6, x7, x8, x9, xa, xb, xc, xd, xe, xf, xg, xh, xi, xj, xk, xl, xm, xn, xo, xp, xq, xr, xs, xt, xu, xv, xw, xx, xy, xz =>
    GL96_14_0 A B (F120_0 A B N) (F117_0 A B N) (L96_14_0 A B N n) k0 k1 x0 x1 x2 x3 x4 x5 x6 x7 x8 x9 xa xb xc xd xe xf xg xh xi xj xk xl xm xn xo xp xq xr xs xt xu xv xw xx xy xz
def P43 : List PT := [.us 4, (.bx [pI, pI, pI, pI, pI, (.r .sn), pI, pI, pB, pB, pB, pB, pB, pB, pB, pB, (.r (.ro 1)), pI, pI]), (.bx [pI, pI, pI, pI]), pB, pI, .us 2, (.bx [pI, pI, pI, pI]), pI, .us 4, (.r (.ro 4)), pI, pI, .us 73]
def S43 (x0 x1 x2 x3 x4 x5 x6 : Int) (x7 x8 x9 xa xb xc xd xe : Bool) (xf : List R) (xg xh xi xj xk xl : Int) (xm : Bool) (xn xo xp xq xr xs : Int) (xt : List R) (xu xv : Int) : List T := (T.u :: T.u :: T.u :: T.u :: (T.bx [(tI x0), (tI x1), (tI x2), (tI x3), (tI x4), (T.r R.sn), (tI x5), (tI x6), (tB x7), (tB x8), (tB x9), (tB xa), (tB xb), (tB xc), (tB xd), (tB xe), (T.r (R.ro 1 xf)), (tI xg), (tI xh)]) :: (T.bx [(tI xi), (tI xj), (tI xk), (tI xl)]) :: (tB xm) :: (tI xn) :: T.u :: T.u :: (T.bx [(tI xo), (tI xp), (tI xq), (tI xr)]) :: (tI xs) :: T.u :: T.u :: T.u :: T.u :: (T.r (R.ro 4 xt)) :: (tI xu) :: (tI xv) :: T.u :: T.u :: T.u :: T.u :: T.u :: T.u :: T.u :: T.u :: T.u :: T.u :: T.u :: T.u :: T.u :: T.u :: T.u :: T.u :: T.u :: T.u :: T.u :: T.u :: T.u :: T.u :: T.u :: T.u :: T.u :: T.u :: T.u :: T.u :: T.u :: T.u :: T.u :: T.u :: T.u :: T.u :: T.u :: T.u :: T.u :: T.u :: T.u :: T.u :: T.u :: T.u :: T.u :: T.u :: T.u :: T.u :: T.u :: T.u :: T.u :: T.u :: T.u :: T.u :: T.u :: T.u :: T.u :: T.u :: T.u :: T.u :: T.u :: T.u :: T.u :: T.u :: T.u :: T.u :: T.u :: T.u :: T.u :: T.u :: T.u :: T.u :: T.u :: T.u :: T.u :: [])
def P44 : List PT := [.us 4, (.bx [pI, pI, pI, pI, pI, (.r .sn), pI, pI, pB, pB, pB, pB, pB, pB, pB, pB, (.r (.ro 1)), pI, pI]), (.bx [pI, pI, pI, pI]), .us 1, pI, .us 2, (.bx [pI, pI, pI, pI]), pI, .us 4, (.r (.ro 4)), pI, pI, .us 73]
def S44 (x0 x1 x2 x3 x4 x5 x6 : Int) (x7 x8 x9 xa xb xc xd xe : Bool) (xf : List R) (xg xh xi xj xk xl xm xn xo xp xq xr : Int) (xs : List R) (xt xu : Int) : List T := (T.u :: T.u :: T.u :: T.u :: (T.bx [(tI x0), (tI x1), (tI x2), (tI x3), (tI x4), (T.r R.sn), (tI x5), (tI x6), (tB x7), (tB x8), (tB x9), (tB xa), (tB xb), (tB xc), (tB xd), (tB xe), (T.r (R.ro 1 xf)), (tI xg), (tI xh)]) :: (T.bx [(tI xi), (tI xj), (tI xk), (tI xl)]) :: T.u :: (tI xm) :: T.u :: T.u :: (T.bx [(tI xn), (tI xo), (tI xp), (tI xq)]) :: (tI xr) :: T.u :: T.u :: T.u :: T.u :: (T.r (R.ro 4 xs)) :: (tI xt) :: (tI xu) :: T.u :: T.u :: T.u :: T.u :: T.u :: T.u :: T.u :: T.u :: T.u :: T.u :: T.u :: T.u :: T.u :: T.u :: T.u :: T.u :: T.u :: T.u :: T.u :: T.u :: T.u :: T.u :: T.u :: T.u :: T.u :: T.u :: T.u :: T.u :: T.u :: T.u :: T.u :: T.u :: T.u :: T.u :: T.u :: T.u :: T.u :: T.u :: T.u :: T.u :: T.u :: T.u :: T.u :: T.u :: T.u :: T.u :: T.u :: T.u :: T.u :: T.u :: T.u :: T.u :: T.u :: T.u :: T.u :: T.u :: T.u :: T.u :: T.u :: T.u :: T.u :: T.u :: T.u :: T.u :: T.u :: T.u :: T.u :: T.u :: T.u :: T.u :: T.u :: T.u :: T.u :: [])
def P45 : List PT := [.us 4, (.bx [pI, pI, pI, pI, pI, (.r .sn), pI, pI, pB, pB, pB, pB, pB, pB, pB, pB, (.r (.ro 1)), pI, pI]), (.bx [pI, pI, pI, pI]), .us 1, pI, .us 2, (.bx [pI, pI, pI, pI]), pI, (.bx [pI, pI]), .us 3, (.r (.ro 4)), pI, pI, .us 46, (.own true 1), pI, pI, .us 24]
noncomputable def M96_14 {β : Type} (l96_14_0 : (Q9 β) → (Q10 β) → Q11 β) (s : List T) : Option ((Ex → List T → Option β) → Option β) :=
  match gTs P45 (clean ((Hn 96).lp 14).1 s) [] with
  | some (.i x0 :: .i x1 :: .i x2 :: .i x3 :: .i x4 :: .i x5 :: .i x6 :: .b x7 :: .b x8 :: .b x9 :: .b xa :: .b xb :: .b xc :: .b xd :: .b xe :: .l xf :: .i xg :: .i xh :: .i xi :: .i xj :: .i xk :: .i xl :: .i xm :: .i xn :: .i xo :: .i xp :: .i xq :: .i xr :: .i xs :: .i xt :: .l xu :: .i xv :: .i xw :: .l xx :: .i xy :: .i xz :: []) => some fun kk => l96_14_0 (fun x10 x11 x12 x13 x14 x15 x16 x17 x18 x19 x1a x1b x1c x1d x1e x1f x1g x1h x1i x1j x1k x1l x1m x1n x1o x1p x1q x1r x1s x1t x1u x1v => kk Ex.rt (S43 x10 x11 x12 x13 x14 x15 x16 x17 x18 x19 x1a x1b x1c x1d x1e x1f x1g x1h x1i x1j x1k x1l x1m x1n x1o x1p x1q x1r x1s x1t x1u x1v)) (fun x1w x1x x1y x1z x20 x21 x22 x23 x24 x25 x26 x27 x28 x29 x2a x2b x2c x2d x2e x2f x2g x2h x2i x2j x2k x2l x2m x2n x2o x2p x2q => kk (Ex.ex 4) (S44 x1w x1x x1y x1z x20 x21 x22 x23 x24 x25 x26 x27 x28 x29 x2a x2b x2c x2d x2e x2f x2g x2h x2i x2j x2k x2l x2m x2n x2o x2p x2q)) x0 x1 x2 x3 x4 x5 x6 x7 x8 x9 xa xb xc xd xe xf xg xh xi xj xk xl xm xn xo xp xq xr xs xt xu xv xw xx xy xz
  | _ => none
theorem e96_14_0 {β : Type} (A : Pr) (B : Pk) (f120_0 : Int → Int → Int → Int → Int → Int → (K4 β) → Option β) (f117_0 : Int → Int → Int → Int → Int → Int → (KI β) → Option β) (l96_14_0 : (Q9 β) → (Q10 β) → Q11 β) (x0 x1 x2 x3 x4 x5 x6 : Int) (x7 x8 x9 xa xb xc xd xe : Bool) (xf : List R) (xg xh xi xj xk xl xm xn xo xp xq xr xs xt : Int) (xu : List R) (xv xw : Int) (xx : List R) (xy xz : Int) (kk : Ex → List T → Option β) :
    uTs P45 (.i x0 :: .i x1 :: .i x2 :: .i x3 :: .i x4 :: .i x5 :: .i x6 :: .b x7 :: .b x8 :: .b x9 :: .b xa :: .b xb :: .b xc :: .b xd :: .b xe :: .l xf :: .i xg :: .i xh :: .i xi :: .i xj :: .i xk :: .i xl :: .i xm :: .i xn :: .i xo :: .i xp :: .i xq :: .i xr :: .i xs :: .i xt :: .l xu :: .i xv :: .i xw :: .l xx :: .i xy :: .i xz :: []) (fun s _ => evK (mkK Try.prog A B [(120, M120_0 f120_0), (117, M117_0 f117_0)] [] (Hn 96).pt []) X96_14 s (fun e s' => match e with
      | .nm => (match M96_14 l96_14_0 s' with | some h => h kk | none => none)
      | .ex m => kk (.ex m) (clean ((Hn 96).lp (firstReg X96_14)).2 s')
      | .rt => kk .rt (clean ((Hn 96).lp (firstReg X96_14)).2 s'))) = GL96_14_0 A B f120_0 f117_0 l96_14_0 (fun x10 x11 x12 x13 x14 x15 x16 x17 x18 x19 x1a x1b x1c x1d x1e x1f x1g x1h x1i x1j x1k x1l x1m x1n x1o x1p x1q x1r x1s x1t x1u x1v => kk Ex.rt (S43 x10 x11 x12 x13 x14 x15 x16 x17 x18 x19 x1a x1b x1c x1d x1e x1f x1g x1h x1i x1j x1k x1l x1m x1n x1o x1p x1q x1r x1s x1t x1u x1v)) (fun x1w x1x x1y x1z x20 x21 x22 x23 x24 x25 x26 x27 x28 x29 x2a x2b x2c x2d x2e x2f x2g x2h x2i x2j x2k x2l x2m x2n x2o x2p x2q => kk (Ex.ex 4) (S44 x1w x1x x1y x1z x20 x21 x22 x23 x24 x25 x26 x27 x28 x29 x2a x2b x2c x2d x2e x2f x2g x2h x2i x2j x2k x2l x2m x2n x2o x2p x2q)) x0 x1 x2 x3 x4 x5 x6 x7 x8 x9 xa xb xc xd xe xf xg xh xi xj xk xl xm xn xo xp xq xr xs xt xu xv xw xx xy xz := by kernel_rfl
theorem ol96_14 {β : Type} (N : Nat) : ∀ n, SndL (β := β) Try.prog Hn (Hn 96) X96_14 (M96_14 (L96_14_0 re rk N n))
  | 0 => by
    intro s h kk r ha hr
    unfold M96_14 at ha
    split at ha
    · cases ha; cases hr
    · cases ha
  | n + 1 => by
    have ih := ol96_14 (β := β) N n
    intro s h kk r ha hr
    unfold M96_14 at ha
    split at ha
    · rename_i hs
      cases ha
      have hk := via_pat hs ((e96_14_0 re rk (F120_0 re rk N) (F117_0 re rk N) (L96_14_0 re rk N n) _ _ _ _ _ _ _ _ _ _ _ _ _ _ _ _ _ _ _ _ _ _ _ _ _ _ _ _ _ _ _ _ _ _ _ _ kk).trans hr)
      exact round_ok (show SndAll Try.prog Hn [(120, M120_0 (F120_0 re rk N)), (117, M117_0 (F117_0 re rk N))] from ⟨o120_0 N, o117_0 N, trivial⟩) (spots := []) (by kernel_rfl) trivial ih (hd := clean ((Hn 96).lp 14).1 s) (by rw [i96_14]) hk
    · cases ha
noncomputable def X96_7 : Code := atF Try.f96 [true, true, false, true, false, false, true, true, false, false, true, true, true, false, false]
theorem i96_7 : firstReg X96_7 = 7 := by kernel_rfl
def GL96_7_0 {β : Type} (A : Pr) (B : Pk) (f116_0 : Int → Int → Int → Int → Int → Int → Int → Bool → Bool → Bool → Bool → Bool → Bool → Bool → Bool → List R → Int → Int → Int → (Int → Int → Option β) → Option β) (f118_0 : Int → Int → Int → Int → Int → Int → (K4 β) → Option β) (f117_0 : Int → Int → Int → Int → Int → Int → (KI β) → Option β) (f119_0 : Int → Int → (KL β) → Option β) (l96_14_0 : (Q9 β) → (Q10 β) → Q11 β) (l96_7_0 : (Q12 β) → (Q13 β) → Q10 β) (k0 : Q12 β) (k1 : Q13 β) (x0 x1 x2 x3 x4 x5 x6 : Int) (x7 x8 x9 xa xb xc xd xe : Bool) (xf : List R) (xg xh xi xj xk xl xm xn xo xp xq xr : Int) (xs : List R) (xt xu : Int) : Option β :=
    match (A.cm .leq xr x1) with
    | true => (f116_0 x0 x1 x2 x3 x4 x5 x6 x7 x8 x9 xa xb xc xd xe xf xg xh xr (fun xv xw =>
      f118_0 xn xo xp xq x1 xr (fun xx xy xz x10 =>
        f117_0 xx xy xz x10 xv xw (fun x11 =>
          match (A.cm .gtr xr 0) with
            | true => (f119_0 x1 xr (fun x12 =>
              l96_14_0 (fun x13 x14 x15 x16 x17 x18 x19 x1a x1b x1c x1d x1e x1f x1g x1h x1i x1j x1k x1l x1m x1n x1o x1p x1q x1r x1s x1t x1u x1v x1w x1x x1y =>
                k0 x13 x14 x15 x16 x17 x18 x19 x1a x1b x1c x1d x1e x1f x1g x1h x1i x1j x1k x1l x1m x1n x1o x1p x1q x1w x1x x1y) (fun x1z x20 x21 x22 x23 x24 x25 x26 x27 x28 x29 x2a x2b x2c x2d x2e x2f x2g x2h x2i x2j x2k x2l x2m x2n x2o x2p x2q x2r x2s x2t =>
                l96_7_0 k0 k1 x1z x20 x21 x22 x23 x24 x25 x26 x27 x28 x29 x2a x2b x2c x2d x2e x2f x2g x2h x2i x2j x2k x2l x2m x2n x2o x2p (A.ar .add .i64 x2q 1) x2r x2s x2t) x0 x1 x2 x3 x4 x5 x6 x7 x8 x9 xa xb xc xd xe xf xg xh xi xj xk xl (A.ar .add .i64 xm (A.ar .mul .i64 x11 x6)) xn xo xp xq xr (A.ar .sub .i64 xv 1) (A.ar .sub .i64 xw 1) xs xt xu x12 (A.on (A.len x12)) 0))
            | false => (f119_0 x1 xr (fun x2u =>
              l96_14_0 (fun x2v x2w x2x x2y x2z x30 x31 x32 x33 x34 x35 x36 x37 x38 x39 x3a x3b x3c x3d x3e x3f x3g x3h x3i x3j x3k x3l x3m x3n x3o x3p x3q =>
                k0 x2v x2w x2x x2y x2z x30 x31 x32 x33 x34 x35 x36 x37 x38 x39 x3a x3b x3c x3d x3e x3f x3g x3h x3i x3o x3p x3q) (fun x3r x3s x3t x3u x3v x3w x3x x3y x3z x40 x41 x42 x43 x44 x45 x46 x47 x48 x49 x4a x4b x4c x4d x4e x4f x4g x4h x4i x4j x4k x4l =>
                l96_7_0 k0 k1 x3r x3s x3t x3u x3v x3w x3x x3y x3z x40 x41 x42 x43 x44 x45 x46 x47 x48 x49 x4a x4b x4c x4d x4e x4f x4g x4h (A.ar .add .i64 x4i 1) x4j x4k x4l) x0 x1 x2 x3 x4 x5 x6 x7 x8 x9 xa xb xc xd xe xf xg xh xi xj xk xl (A.ar .add .i64 xm (A.ar .mul .i64 x11 x6)) xn xo xp xq xr xv xw xs xt xu x2u (A.on (A.len x2u)) 0))))))
    | false => (k1 x0 x1 x2 x3 x4 x5 x6 x7 x8 x9 xa xb xc xd xe xf xg xh xi xj xk xl xm xs xt xu)
def L96_7_0 {β : Type} (A : Pr) (B : Pk) (N : Nat) : Nat → (Q12 β) → (Q13 β) → Q10 β
  | 0, _, _, _, _, _, _, _, _, _, _, _, _, _, _, _, _, _, _, _, _, _, _, _, _, _, _, _, _, _, _, _, _, _ => none
  | n + 1, k0, k1, x0, x1, x2, x3, x4, x5, x6, x7, x8, x9, xa, xb, xc, xd, xe, xf, xg, xh, xi, xj, xk, xl, xm, xn, xo, xp, xq, xr, xs, xt, xu =>
    GL96_7_0 A B (F116_0 A B N) (F118_0 A B N) (F117_0 A B N) (F119_0 A B N) (L96_14_0 A B N N) (L96_7_0 A B N n) k0 k1 x0 x1 x2 x3 x4 x5 x6 x7 x8 x9 xa xb xc xd xe xf xg xh xi xj xk xl xm xn xo xp xq xr xs xt xu
def P46 : List PT := [.us 4, (.bx [pI, pI, pI, pI, pI, (.r .sn), pI, pI, pB, pB, pB, pB, pB, pB, pB, pB, (.r (.ro 1)), pI, pI]), (.bx [pI, pI, pI, pI]), pB, pI, .us 8, (.r (.ro 4)), pI, pI, .us 73]
def S46 (x0 x1 x2 x3 x4 x5 x6 : Int) (x7 x8 x9 xa xb xc xd xe : Bool) (xf : List R) (xg xh xi xj xk xl : Int) (xm : Bool) (xn : Int) (xo : List R) (xp xq : Int) : List T := (T.u :: T.u :: T.u :: T.u :: (T.bx [(tI x0), (tI x1), (tI x2), (tI x3), (tI x4), (T.r R.sn), (tI x5), (tI x6), (tB x7), (tB x8), (tB x9), (tB xa), (tB xb), (tB xc), (tB xd), (tB xe), (T.r (R.ro 1 xf)), (tI xg), (tI xh)]) :: (T.bx [(tI xi), (tI xj), (tI xk), (tI xl)]) :: (tB xm) :: (tI xn) :: T.u :: T.u :: T.u :: T.u :: T.u :: T.u :: T.u :: T.u :: (T.r (R.ro 4 xo)) :: (tI xp) :: (tI xq) :: T.u :: T.u :: T.u :: T.u :: T.u :: T.u :: T.u :: T.u :: T.u :: T.u :: T.u :: T.u :: T.u :: T.u :: T.u :: T.u :: T.u :: T.u :: T.u :: T.u :: T.u :: T.u :: T.u :: T.u :: T.u :: T.u :: T.u :: T.u :: T.u :: T.u :: T.u :: T.u :: T.u :: T.u :: T.u :: T.u :: T.u :: T.u :: T.u :: T.u :: T.u :: T.u :: T.u :: T.u :: T.u :: T.u :: T.u :: T.u :: T.u :: T.u :: T.u :: T.u :: T.u :: T.u :: T.u :: T.u :: T.u :: T.u :: T.u :: T.u :: T.u :: T.u :: T.u :: T.u :: T.u :: T.u :: T.u :: T.u :: T.u :: T.u :: T.u :: T.u :: T.u :: [])
def P47 : List PT := [.us 4, (.bx [pI, pI, pI, pI, pI, (.r .sn), pI, pI, pB, pB, pB, pB, pB, pB, pB, pB, (.r (.ro 1)), pI, pI]), (.bx [pI, pI, pI, pI]), .us 1, pI, .us 8, (.r (.ro 4)), pI, pI, .us 73]
def S47 (x0 x1 x2 x3 x4 x5 x6 : Int) (x7 x8 x9 xa xb xc xd xe : Bool) (xf : List R) (xg xh xi xj xk xl xm : Int) (xn : List R) (xo xp : Int) : List T := (T.u :: T.u :: T.u :: T.u :: (T.bx [(tI x0), (tI x1), (tI x2), (tI x3), (tI x4), (T.r R.sn), (tI x5), (tI x6), (tB x7), (tB x8), (tB x9), (tB xa), (tB xb), (tB xc), (tB xd), (tB xe), (T.r (R.ro 1 xf)), (tI xg), (tI xh)]) :: (T.bx [(tI xi), (tI xj), (tI xk), (tI xl)]) :: T.u :: (tI xm) :: T.u :: T.u :: T.u :: T.u :: T.u :: T.u :: T.u :: T.u :: (T.r (R.ro 4 xn)) :: (tI xo) :: (tI xp) :: T.u :: T.u :: T.u :: T.u :: T.u :: T.u :: T.u :: T.u :: T.u :: T.u :: T.u :: T.u :: T.u :: T.u :: T.u :: T.u :: T.u :: T.u :: T.u :: T.u :: T.u :: T.u :: T.u :: T.u :: T.u :: T.u :: T.u :: T.u :: T.u :: T.u :: T.u :: T.u :: T.u :: T.u :: T.u :: T.u :: T.u :: T.u :: T.u :: T.u :: T.u :: T.u :: T.u :: T.u :: T.u :: T.u :: T.u :: T.u :: T.u :: T.u :: T.u :: T.u :: T.u :: T.u :: T.u :: T.u :: T.u :: T.u :: T.u :: T.u :: T.u :: T.u :: T.u :: T.u :: T.u :: T.u :: T.u :: T.u :: T.u :: T.u :: T.u :: T.u :: T.u :: [])
noncomputable def M96_7 {β : Type} (l96_7_0 : (Q12 β) → (Q13 β) → Q10 β) (s : List T) : Option ((Ex → List T → Option β) → Option β) :=
  match gTs P44 (clean ((Hn 96).lp 7).1 s) [] with
  | some (.i x0 :: .i x1 :: .i x2 :: .i x3 :: .i x4 :: .i x5 :: .i x6 :: .b x7 :: .b x8 :: .b x9 :: .b xa :: .b xb :: .b xc :: .b xd :: .b xe :: .l xf :: .i xg :: .i xh :: .i xi :: .i xj :: .i xk :: .i xl :: .i xm :: .i xn :: .i xo :: .i xp :: .i xq :: .i xr :: .l xs :: .i xt :: .i xu :: []) => some fun kk => l96_7_0 (fun xv xw xx xy xz x10 x11 x12 x13 x14 x15 x16 x17 x18 x19 x1a x1b x1c x1d x1e x1f x1g x1h x1i x1j x1k x1l => kk Ex.rt (S46 xv xw xx xy xz x10 x11 x12 x13 x14 x15 x16 x17 x18 x19 x1a x1b x1c x1d x1e x1f x1g x1h x1i x1j x1k x1l)) (fun x1m x1n x1o x1p x1q x1r x1s x1t x1u x1v x1w x1x x1y x1z x20 x21 x22 x23 x24 x25 x26 x27 x28 x29 x2a x2b => kk (Ex.ex 2) (S47 x1m x1n x1o x1p x1q x1r x1s x1t x1u x1v x1w x1x x1y x1z x20 x21 x22 x23 x24 x25 x26 x27 x28 x29 x2a x2b)) x0 x1 x2 x3 x4 x5 x6 x7 x8 x9 xa xb xc xd xe xf xg xh xi xj xk xl xm xn xo xp xq xr xs xt xu
  | _ => none
theorem e96_7_0 {β : Type} (A : Pr) (B : Pk) (f116_0 : Int → Int → Int → Int → Int → Int → Int → Bool → Bool → Bool → Bool → Bool → Bool → Bool → Bool → List R → Int → Int → Int → (Int → Int → Option β) → Option β) (f118_0 : Int → Int → Int → Int → Int → Int → (K4 β) → Option β) (f117_0 : Int → Int → Int → Int → Int → Int → (KI β) → Option β) (f119_0 : Int → Int → (KL β) → Option β) (l96_14_0 : (Q9 β) → (Q10 β) → Q11 β) (l96_7_0 : (Q12 β) → (Q13 β) → Q10 β) (x0 x1 x2 x3 x4 x5 x6 : Int) (x7 x8 x9 xa xb xc xd xe : Bool) (xf : List R) (xg xh xi xj xk xl xm xn xo xp xq xr : Int) (xs : List R) (xt xu : Int) (kk : Ex → List T → Option β) :
    uTs P44 (.i x0 :: .i x1 :: .i x2 :: .i x3 :: .i x4 :: .i x5 :: .i x6 :: .b x7 :: .b x8 :: .b x9 :: .b xa :: .b xb :: .b xc :: .b xd :: .b xe :: .l xf :: .i xg :: .i xh :: .i xi :: .i xj :: .i xk :: .i xl :: .i xm :: .i xn :: .i xo :: .i xp :: .i xq :: .i xr :: .l xs :: .i xt :: .i xu :: []) (fun s _ => evK (mkK Try.prog A B [(116, M116_0 f116_0), (118, M118_0 f118_0), (117, M117_0 f117_0), (119, M119_0 f119_0)] [(14, M96_14 l96_14_0)] (Hn 96).pt []) X96_7 s (fun e s' => match e with
      | .nm => (match M96_7 l96_7_0 s' with | some h => h kk | none => none)
      | .ex m => kk (.ex m) (clean ((Hn 96).lp (firstReg X96_7)).2 s')
      | .rt => kk .rt (clean ((Hn 96).lp (firstReg X96_7)).2 s'))) = GL96_7_0 A B f116_0 f118_0 f117_0 f119_0 l96_14_0 l96_7_0 (fun xv xw xx xy xz x10 x11 x12 x13 x14 x15 x16 x17 x18 x19 x1a x1b x1c x1d x1e x1f x1g x1h x1i x1j x1k x1l => kk Ex.rt (S46 xv xw xx xy xz x10 x11 x12 x13 x14 x15 x16 x17 x18 x19 x1a x1b x1c x1d x1e x1f x1g x1h x1i x1j x1k x1l)) (fun x1m x1n x1o x1p x1q x1r x1s x1t x1u x1v x1w x1x x1y x1z x20 x21 x22 x23 x24 x25 x26 x27 x28 x29 x2a x2b => kk (Ex.ex 2) (S47 x1m x1n x1o x1p x1q x1r x1s x1t x1u x1v x1w x1x x1y x1z x20 x21 x22 x23 x24 x25 x26 x27 x28 x29 x2a x2b)) x0 x1 x2 x3 x4 x5 x6 x7 x8 x9 xa xb xc xd xe xf xg xh xi xj xk xl xm xn xo xp xq xr xs xt xu := by kernel_rfl
theorem ol96_7 {β : Type} (N : Nat) : ∀ n, SndL (β := β) Try.prog Hn (Hn 96) X96_7 (M96_7 (L96_7_0 re rk N n))
  | 0 => by
    intro s h kk r ha hr
    unfold M96_7 at ha
    split at ha
    · cases ha; cases hr
    · cases ha
  | n + 1 => by
    have ih := ol96_7 (β := β) N n
    intro s h kk r ha hr
    unfold M96_7 at ha
    split at ha
    · rename_i hs
      cases ha
      have hk := via_pat hs ((e96_7_0 re rk (F116_0 re rk N) (F118_0 re rk N) (F117_0 re rk N) (F119_0 re rk N) (L96_14_0 re rk N N) (L96_7_0 re rk N n) _ _ _ _ _ _ _ _ _ _ _ _ _ _ _ _ _ _ _ _ _ _ _ _ _ _ _ _ _ _ _ kk).trans hr)
      exact round_ok (show SndAll Try.prog Hn [(116, M116_0 (F116_0 re rk N)), (118, M118_0 (F118_0 re rk N)), (117, M117_0 (F117_0 re rk N)), (119, M119_0 (F119_0 re rk N))] from ⟨o116_0 N, o118_0 N, o117_0 N, o119_0 N, trivial⟩) (spots := [.lp X96_14]) (by kernel_rfl) ⟨cut_lp (id := 14) i96_14 (ol96_14 N N) (fun s kk => by kernel_rfl), trivial⟩ ih (hd := clean ((Hn 96).lp 7).1 s) (by rw [i96_7]) hk
    · cases ha
noncomputable def X96_3 : Code := atF Try.f96 [true, true, false, true, false, false]
theorem i96_3 : firstReg X96_3 = 3 := by kernel_rfl
def GL96_3_0 {β : Type} (A : Pr) (B : Pk) (f47_0 : Int → Int → Int → Int → Int → Int → (K4 β) → Option β) (l96_7_0 : (Q12 β) → (Q13 β) → Q10 β) (l96_3_0 : (Bool → Int → Option β) → (KI β) → Q13 β) (k0 : Bool → Int → Option β) (k1 : KI β) (x0 x1 x2 x3 x4 x5 x6 : Int) (x7 x8 x9 xa xb xc xd xe : Bool) (xf : List R) (xg xh xi xj xk xl xm : Int) (xn : List R) (xo xp : Int) : Option β :=
    match (A.cm .lss xp xo) with
    | true => (match (A.ix xp (A.len xn)) with
      | some xq => (match (B.okE [(Sh.i .i64), Sh.b, (Sh.i .i64), (Sh.i .i64)] true xn xq) with
        | true => (f47_0 xi xj xk xl (B.ci xn xq 2) (B.ci xn xq 3) (fun xr xs xt xu =>
          l96_7_0 (fun xv xw xx xy xz x10 x11 x12 x13 x14 x15 x16 x17 x18 x19 x1a x1b x1c x1d x1e x1f x1g x1h x1i x1j x1k x1l =>
            k0 x1h x1i) (fun x1m x1n x1o x1p x1q x1r x1s x1t x1u x1v x1w x1x x1y x1z x20 x21 x22 x23 x24 x25 x26 x27 x28 x29 x2a x2b =>
            l96_3_0 k0 k1 x1m x1n x1o x1p x1q x1r x1s x1t x1u x1v x1w x1x x1y x1z x20 x21 x22 x23 x24 x25 x26 x27 x28 x29 x2a (A.ar .add .i64 x2b 1)) x0 x1 x2 x3 x4 x5 x6 x7 x8 x9 xa xb xc xd xe xf xg xh xi xj xk xl xm xr xs xt xu 0 xn xo xp))
        | false => none)
      | none => none)
    | false => (k1 xm)
end
