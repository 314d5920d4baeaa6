/-
  The functions' trees, printed by a program of ours.
-/
import Derived.Test.YthlnfebecphcmaaGreatH
set_option linter.unusedVariables false
set_option maxRecDepth 100000
namespace Go.Proofs.YthlnfebecphcmaaGreat
open Go.Os
section
abbrev pI : PT := .r (.i .i64)
abbrev pB : PT := .r .b
abbrev tI (x : Int) : T := .r (.i .i64 x)
abbrev tB (x : Bool) : T := .r (.b x)
abbrev Q0 (β : Type) := Int → Int → Int → Int → Int → Int → Int → Int → Int → List R → Int → Option β
abbrev Q1 (β : Type) := Int → Int → Int → Int → Int → Int → Int → Int → Int → List R → Int → Int → Option β
abbrev Q2 (β : Type) := Int → Int → Int → Int → Int → List R → Int → Int → Bool → Bool → Bool → Bool → Bool → Bool → Bool → Bool → List R → Int → Int → Bool → Option β
abbrev Q3 (β : Type) := Int → Int → Int → Int → Int → List R → Int → Int → Bool → Bool → Bool → Bool → Bool → Bool → Bool → Bool → List R → Int → Int → Option β
abbrev Q4 (β : Type) := Int → Int → Int → Int → Int → List R → Int → Int → Bool → Bool → Bool → Bool → Bool → Bool → Bool → Bool → List R → Int → Int → Int → Option β
abbrev Q5 (β : Type) := Int → Int → Int → Int → Int → Int → Int → Int → Int → Int → Option β
abbrev Q6 (β : Type) := Int → Int → Int → Int → Int → Int → Int → Int → Int → Int → Int → Option β
abbrev Q7 (β : Type) := Int → Int → Int → Int → Int → Int → List R → Int → Int → Int → Int → Int → List R → Int → Int → Bool → Bool → Bool → Bool → Bool → Bool → Bool → Bool → List R → Int → Int → Int → Int → Int → Int → Int → Int → Option β
abbrev Q8 (β : Type) := Int → Int → Int → Int → Int → Int → List R → Int → Int → Int → Int → Int → List R → Int → Int → Bool → Bool → Bool → Bool → Bool → Bool → Bool → Bool → List R → Int → Int → Int → Int → Int → Int → Int → Int → Int → Int → Int → Int → Int → Option β
abbrev Q9 (β : Type) := Int → Int → Int → Int → Int → Int → Int → Int → Int → Int → Int → Int → Int → Int → Int → Int → Int → Int → Int → Int → Int → Int → Int → Int → Int → Int → Int → Int → Int → Int → Int → Int → Option β
abbrev Q10 (β : Type) := Int → Int → Int → Int → Int → Int → Int → Int → Int → Int → Int → Int → Int → Int → Int → Int → Int → Int → Int → Int → Int → Int → Int → Int → Int → Int → Int → Int → Int → Int → Int → Int → Int → Int → Int → Int → Int → Option β
abbrev Q11 (β : Type) := Int → Int → Int → Int → Int → Int → Int → Int → Int → Int → Int → Int → Int → Int → Int → Int → Option β
abbrev Q12 (β : Type) := Int → Int → Int → Int → Int → Int → List R → Int → Int → Int → Int → Int → List R → Int → Int → Bool → Bool → Bool → Bool → Bool → Bool → Bool → Bool → List R → Int → Int → List R → Int → Option β
abbrev Q13 (β : Type) := Int → Int → Int → Int → Int → Int → List R → Int → Int → Int → Int → Int → List R → Int → Int → Bool → Bool → Bool → Bool → Bool → Bool → Bool → Bool → List R → Int → Int → Int → Int → Option β
abbrev Q14 (β : Type) := Int → Int → Int → Int → Int → Int → List R → Int → Int → Int → Int → Int → List R → Int → Int → Bool → Bool → Bool → Bool → Bool → Bool → Bool → Bool → List R → Int → Int → List R → List R → Bool → Option β
abbrev Q15 (β : Type) := Int → Int → Int → Int → Int → Int → List R → Int → Int → Int → Int → Int → List R → Int → Int → Bool → Bool → Bool → Bool → Bool → Bool → Bool → Bool → List R → Int → Int → List R → List R → Option β
abbrev Q16 (β : Type) := Int → Int → Int → Int → Int → Int → List R → Int → Int → Int → Int → Int → List R → Int → Int → Bool → Bool → Bool → Bool → Bool → Bool → Bool → Bool → List R → Int → Int → List R → List R → List R → Int → Int → Option β
abbrev Q17 (β : Type) := Int → Int → Int → Int → Int → Int → List R → Int → Int → Int → Int → Int → Int → List R → Int → Int → Int → Int → Int → List R → Int → Int → Bool → Bool → Bool → Bool → Bool → Bool → Bool → Bool → List R → Int → Int → Int → Int → Int → Int → Int → List R → Int → Int → Bool → Bool → Bool → Bool → Bool → Bool → Bool → Bool → List R → Int → Int → Bool → Bool → Option β
abbrev Q18 (β : Type) := Int → Int → Int → Int → Int → Int → List R → Int → Int → Int → Int → Int → List R → Int → Int → Bool → Bool → Bool → Bool → Bool → Bool → Bool → Bool → List R → Int → Int → List R → List R → Int → Int → Int → Int → Int → Int → List R → Int → Int → Int → Int → Int → List R → Int → Int → Bool → Bool → Bool → Bool → Bool → Bool → Bool → Bool → List R → Int → Int → List R → List R → Int → Int → Option β
abbrev Q19 (β : Type) := Int → Int → Int → Int → Int → Int → List R → Int → Int → Int → Int → Int → Int → List R → Int → Option β
abbrev Q20 (β : Type) := Int → Int → Int → Int → Int → List R → Int → Int → Bool → Bool → Bool → Bool → Bool → Bool → Bool → Bool → List R → Int → Int → Int → Int → Int → Int → Int → List R → Int → Int → Bool → Bool → Bool → Bool → Bool → Bool → Bool → Bool → List R → Int → Int → Bool → Option β
abbrev Q21 (β : Type) := Int → Int → Int → Int → Int → List R → Int → Int → Bool → Bool → Bool → Bool → Bool → Bool → Bool → Bool → List R → Int → Int → Int → Int → Int → Int → Int → List R → Int → Int → Bool → Bool → Bool → Bool → Bool → Bool → Bool → Bool → List R → Int → Int → Option β
abbrev Q22 (β : Type) := Int → Int → Int → Int → Int → List R → Int → Int → Bool → Bool → Bool → Bool → Bool → Bool → Bool → Bool → List R → Int → Int → Int → Int → Int → Int → Int → List R → Int → Int → Bool → Bool → Bool → Bool → Bool → Bool → Bool → Bool → List R → Int → Int → Int → Option β
def G55_0 {β : Type} (A : Pr) (B : Pk) (x0 x1 x2 x3 : Int) (k0 : Bool → Option β) : Option β :=
    match (A.cm .leq 0 x0) with
    | true => (match (A.cm .leq x0 x2) with
      | true => (match (A.cm .leq x2 4096) with
        | true => (match (A.cm .leq 0 x1) with
          | true => (match (A.cm .leq x1 x3) with
            | true => (k0 (A.cm .leq x3 4096))
            | false => (k0 false))
          | false => (k0 false))
        | false => (k0 false))
      | false => (k0 false))
    | false => (k0 false)
def F55_0 {β : Type} (A : Pr) (B : Pk) (N : Nat) (x0 x1 x2 x3 : Int) (k0 : Bool → Option β) : Option β :=
  G55_0 A B  x0 x1 x2 x3 k0
def P0 : List PT := [(.r (.a [(.i .i64), (.i .i64), (.i .i64), (.i .i64)]))]
def M55_0 {β : Type} (f55_0 : Int → Int → Int → Int → (Bool → Option β) → Option β) (a : List T) : Option ((T → List (List T) → Option β) → Option β) :=
  match gTs P0 a [] with
  | some [.i x0, .i x1, .i x2, .i x3] => some fun kk => f55_0 x0 x1 x2 x3 (fun x4 => kk (tB x4) [])
  | _ => none
theorem e55_0 {β : Type} (A : Pr) (B : Pk) (x0 x1 x2 x3 : Int) (kk : T → List (List T) → Option β) :
    uTs P0 [.i x0, .i x1, .i x2, .i x3] (fun a _ => bodyK (mkK Tryz.prog A B [] [] (Hn 55).pt []) Tryz.f55 a kk) = G55_0 A B  x0 x1 x2 x3 (fun x4 => kk (tB x4) []) := by kernel_rfl
theorem o55_0 {β : Type} (N : Nat) : Snd (β := β) Tryz.prog Hn 55 (M55_0 (F55_0 re rk N)) := by
  intro a h kk r ha hr
  unfold M55_0 at ha
  split at ha
  · rename_i hs
    cases ha
    have hk := via_pat hs ((e55_0 re rk  _ _ _ _ kk).trans hr)
    exact fn_ok (f := 55) (fn := Tryz.f55) (H := Hn) (by kernel_rfl) (show SndAll Tryz.prog Hn [] from trivial) (spots := []) (by kernel_rfl) trivial hk
  · cases ha
def G56_0 {β : Type} (A : Pr) (B : Pk) (x0 x1 x2 x3 : Int) (k0 : Bool → Option β) : Option β :=
    match (A.cm .geq x0 x2) with
    | true => (k0 true)
    | false => (k0 (A.cm .geq x1 x3))
def F56_0 {β : Type} (A : Pr) (B : Pk) (N : Nat) (x0 x1 x2 x3 : Int) (k0 : Bool → Option β) : Option β :=
  G56_0 A B  x0 x1 x2 x3 k0
def M56_0 {β : Type} (f56_0 : Int → Int → Int → Int → (Bool → Option β) → Option β) (a : List T) : Option ((T → List (List T) → Option β) → Option β) :=
  match gTs P0 a [] with
  | some [.i x0, .i x1, .i x2, .i x3] => some fun kk => f56_0 x0 x1 x2 x3 (fun x4 => kk (tB x4) [])
  | _ => none
theorem e56_0 {β : Type} (A : Pr) (B : Pk) (x0 x1 x2 x3 : Int) (kk : T → List (List T) → Option β) :
    uTs P0 [.i x0, .i x1, .i x2, .i x3] (fun a _ => bodyK (mkK Tryz.prog A B [] [] (Hn 56).pt []) Tryz.f56 a kk) = G56_0 A B  x0 x1 x2 x3 (fun x4 => kk (tB x4) []) := by kernel_rfl
theorem o56_0 {β : Type} (N : Nat) : Snd (β := β) Tryz.prog Hn 56 (M56_0 (F56_0 re rk N)) := by
  intro a h kk r ha hr
  unfold M56_0 at ha
  split at ha
  · rename_i hs
    cases ha
    have hk := via_pat hs ((e56_0 re rk  _ _ _ _ kk).trans hr)
    exact fn_ok (f := 56) (fn := Tryz.f56) (H := Hn) (by kernel_rfl) (show SndAll Tryz.prog Hn [] from trivial) (spots := []) (by kernel_rfl) trivial hk
  · cases ha
def G57_0 {β : Type} (A : Pr) (B : Pk) (x0 x1 x2 : Int) (k0 : Bool → Option β) : Option β :=
    match (A.cm .leq x1 x0) with
    | true => (k0 (A.cm .leq x0 x2))
    | false => (k0 false)
def F57_0 {β : Type} (A : Pr) (B : Pk) (N : Nat) (x0 x1 x2 : Int) (k0 : Bool → Option β) : Option β :=
  G57_0 A B  x0 x1 x2 k0
def P1 : List PT := [pI, pI, pI]
def M57_0 {β : Type} (f57_0 : Int → Int → Int → (Bool → Option β) → Option β) (a : List T) : Option ((T → List (List T) → Option β) → Option β) :=
  match gTs P1 a [] with
  | some [.i x0, .i x1, .i x2] => some fun kk => f57_0 x0 x1 x2 (fun x3 => kk (tB x3) [])
  | _ => none
theorem e57_0 {β : Type} (A : Pr) (B : Pk) (x0 x1 x2 : Int) (kk : T → List (List T) → Option β) :
    uTs P1 [.i x0, .i x1, .i x2] (fun a _ => bodyK (mkK Tryz.prog A B [] [] (Hn 57).pt []) Tryz.f57 a kk) = G57_0 A B  x0 x1 x2 (fun x3 => kk (tB x3) []) := by kernel_rfl
theorem o57_0 {β : Type} (N : Nat) : Snd (β := β) Tryz.prog Hn 57 (M57_0 (F57_0 re rk N)) := by
  intro a h kk r ha hr
  unfold M57_0 at ha
  split at ha
  · rename_i hs
    cases ha
    have hk := via_pat hs ((e57_0 re rk  _ _ _ kk).trans hr)
    exact fn_ok (f := 57) (fn := Tryz.f57) (H := Hn) (by kernel_rfl) (show SndAll Tryz.prog Hn [] from trivial) (spots := []) (by kernel_rfl) trivial hk
  · cases ha
def G96_0 {β : Type} (A : Pr) (B : Pk) (x0 x1 : Int) (k0 : Int → Option β) : Option β :=
    match (A.cm .lss x1 1) with
    | true => (k0 0)
    | false => (match (A.nz x1) with
      | true => none
      | false => (match (A.nz x1) with
        | true => none
        | false => (match (A.cm .gtr (A.ar .rem .i64 x0 x1) 0) with
          | true => (k0 (A.ar .add .i64 (A.ar .quo .i64 x0 x1) 1))
          | false => (k0 (A.ar .quo .i64 x0 x1)))))
def F96_0 {β : Type} (A : Pr) (B : Pk) (N : Nat) (x0 x1 : Int) (k0 : Int → Option β) : Option β :=
  G96_0 A B  x0 x1 k0
def P2 : List PT := [pI, pI]
def M96_0 {β : Type} (f96_0 : Int → Int → (Int → Option β) → Option β) (a : List T) : Option ((T → List (List T) → Option β) → Option β) :=
  match gTs P2 a [] with
  | some [.i x0, .i x1] => some fun kk => f96_0 x0 x1 (fun x2 => kk (tI x2) [])
  | _ => none
theorem e96_0 {β : Type} (A : Pr) (B : Pk) (x0 x1 : Int) (kk : T → List (List T) → Option β) :
    uTs P2 [.i x0, .i x1] (fun a _ => bodyK (mkK Tryz.prog A B [] [] (Hn 96).pt []) Tryz.f96 a kk) = G96_0 A B  x0 x1 (fun x2 => kk (tI x2) []) := by kernel_rfl
theorem o96_0 {β : Type} (N : Nat) : Snd (β := β) Tryz.prog Hn 96 (M96_0 (F96_0 re rk N)) := by
  intro a h kk r ha hr
  unfold M96_0 at ha
  split at ha
  · rename_i hs
    cases ha
    have hk := via_pat hs ((e96_0 re rk  _ _ kk).trans hr)
    exact fn_ok (f := 96) (fn := Tryz.f96) (H := Hn) (by kernel_rfl) (show SndAll Tryz.prog Hn [] from trivial) (spots := []) (by kernel_rfl) trivial hk
  · cases ha
def G58_0 {β : Type} (A : Pr) (B : Pk) (f55_0 : Int → Int → Int → Int → (Bool → Option β) → Option β) (f96_0 : Int → Int → (Int → Option β) → Option β) (x0 x1 x2 x3 x4 x5 : Int) (k0 : Int → Int → Int → Int → Option β) : Option β :=
    f55_0 x0 x1 x2 x3 (fun x6 =>
    match (A.bn x6) with
      | true => (k0 0 0 0 0)
      | false => (match (A.cm .lss x4 1) with
        | true => (k0 0 0 0 0)
        | false => (match (A.cm .gtr x4 4096) with
          | true => (k0 0 0 0 0)
          | false => (match (A.cm .lss x5 1) with
            | true => (k0 0 0 0 0)
            | false => (match (A.cm .gtr x5 4096) with
              | true => (k0 0 0 0 0)
              | false => (f96_0 x0 x4 (fun x7 =>
                f96_0 x1 x5 (fun x8 =>
                  f96_0 x2 x4 (fun x9 =>
                    f96_0 x3 x5 (fun xa =>
                      k0 x7 x8 x9 xa))))))))))
def F58_0 {β : Type} (A : Pr) (B : Pk) (N : Nat) (x0 x1 x2 x3 x4 x5 : Int) (k0 : Int → Int → Int → Int → Option β) : Option β :=
  G58_0 A B (F55_0 A B N) (F96_0 A B N) x0 x1 x2 x3 x4 x5 k0
def P3 : List PT := [(.r (.a [(.i .i64), (.i .i64), (.i .i64), (.i .i64)])), pI, pI]
def M58_0 {β : Type} (f58_0 : Int → Int → Int → Int → Int → Int → (Int → Int → Int → Int → Option β) → Option β) (a : List T) : Option ((T → List (List T) → Option β) → Option β) :=
  match gTs P3 a [] with
  | some [.i x0, .i x1, .i x2, .i x3, .i x4, .i x5] => some fun kk => f58_0 x0 x1 x2 x3 x4 x5 (fun x6 x7 x8 x9 => kk (T.r (R.a [(R.i .i64 x6), (R.i .i64 x7), (R.i .i64 x8), (R.i .i64 x9)])) [])
  | _ => none
theorem e58_0 {β : Type} (A : Pr) (B : Pk) (f55_0 : Int → Int → Int → Int → (Bool → Option β) → Option β) (f96_0 : Int → Int → (Int → Option β) → Option β) (x0 x1 x2 x3 x4 x5 : Int) (kk : T → List (List T) → Option β) :
    uTs P3 [.i x0, .i x1, .i x2, .i x3, .i x4, .i x5] (fun a _ => bodyK (mkK Tryz.prog A B [(55, M55_0 f55_0), (96, M96_0 f96_0)] [] (Hn 58).pt []) Tryz.f58 a kk) = G58_0 A B f55_0 f96_0 x0 x1 x2 x3 x4 x5 (fun x6 x7 x8 x9 => kk (T.r (R.a [(R.i .i64 x6), (R.i .i64 x7), (R.i .i64 x8), (R.i .i64 x9)])) []) := by kernel_rfl
theorem o58_0 {β : Type} (N : Nat) : Snd (β := β) Tryz.prog Hn 58 (M58_0 (F58_0 re rk N)) := by
  intro a h kk r ha hr
  unfold M58_0 at ha
  split at ha
  · rename_i hs
    cases ha
    have hk := via_pat hs ((e58_0 re rk (F55_0 re rk N) (F96_0 re rk N) _ _ _ _ _ _ kk).trans hr)
    exact fn_ok (f := 58) (fn := Tryz.f58) (H := Hn) (by kernel_rfl) (show SndAll Tryz.prog Hn [(55, M55_0 (F55_0 re rk N)), (96, M96_0 (F96_0 re rk N))] from ⟨o55_0 N, o96_0 N, trivial⟩) (spots := []) (by kernel_rfl) trivial hk
  · cases ha
noncomputable def X34_4 : Code := atF Tryz.f34 [true, true, false, true, false, false]
theorem i34_4 : firstReg X34_4 = 4 := by kernel_rfl
def GL34_4_0 {β : Type} (A : Pr) (B : Pk) (f57_0 : Int → Int → Int → (Bool → Option β) → Option β) (f58_0 : Int → Int → Int → Int → Int → Int → (Int → Int → Int → Int → Option β) → Option β) (f56_0 : Int → Int → Int → Int → (Bool → Option β) → Option β) (l34_4_0 : (Int → Int → Int → Int → Int → Int → List R → Int → Option β) → (Int → Int → Int → Int → Int → Int → List R → Option β) → Int → Int → Int → Int → Int → Int → List R → Int → Option β) (k0 : Int → Int → Int → Int → Int → Int → List R → Int → Option β) (k1 : Int → Int → Int → Int → Int → Int → List R → Option β) (x0 x1 x2 x3 x4 x5 : Int) (x6 : List R) (x7 : Int) : Option β :=
    match (A.cm .lss x7 (A.on (A.len x6))) with
    | true => (match (A.ix x7 (A.len x6)) with
      | some x8 => (match (B.okE [(Sh.i .i64), Sh.b, (Sh.i .i64), (Sh.i .i64)] true x6 x8) with
        | true => (f57_0 (B.ci x6 x8 0) 1 16 (fun x9 =>
          match (A.bn x9) with
            | true => (k0 x0 x1 x2 x3 x4 x5 x6 12)
            | false => (f57_0 (B.ci x6 x8 2) 1 4 (fun xa =>
              match (A.bn xa) with
                | true => (k0 x0 x1 x2 x3 x4 x5 x6 12)
                | false => (f57_0 (B.ci x6 x8 3) 1 4 (fun xb =>
                  match (A.bn xb) with
                    | true => (k0 x0 x1 x2 x3 x4 x5 x6 12)
                    | false => (f58_0 x0 x1 x2 x3 (B.ci x6 x8 2) (B.ci x6 x8 3) (fun xc xd xe xf =>
                      f56_0 xc xd xe xf (fun xg =>
                        match xg with
                          | true => (k0 x0 x1 x2 x3 x4 x5 x6 12)
                          | false => (l34_4_0 k0 k1 x0 x1 x2 x3 x4 x5 x6 (A.ar .add .i64 x7 1)))))))))))
        | false => none)
      | none => none)
    | false => (k1 x0 x1 x2 x3 x4 x5 x6)
def L34_4_0 {β : Type} (A : Pr) (B : Pk) (N : Nat) : Nat → (Int → Int → Int → Int → Int → Int → List R → Int → Option β) → (Int → Int → Int → Int → Int → Int → List R → Option β) → Int → Int → Int → Int → Int → Int → List R → Int → Option β
  | 0, _, _, _, _, _, _, _, _, _, _ => none
  | n + 1, k0, k1, x0, x1, x2, x3, x4, x5, x6, x7 =>
    GL34_4_0 A B (F57_0 A B N) (F58_0 A B N) (F56_0 A B N) (L34_4_0 A B N n) k0 k1 x0 x1 x2 x3 x4 x5 x6 x7
def P4 : List PT := [.us 1, (.bx [pI, pI, pI, pI, pI, pI, (.r (.ro 4))]), pI, .us 94]
def S4 (x0 x1 x2 x3 x4 x5 : Int) (x6 : List R) (x7 : Int) : List T := (T.u :: (T.bx [(tI x0), (tI x1), (tI x2), (tI x3), (tI x4), (tI x5), (T.r (R.ro 4 x6))]) :: (tI x7) :: T.u :: T.u :: T.u :: T.u :: T.u :: T.u :: T.u :: T.u :: T.u :: T.u :: T.u :: T.u :: T.u :: T.u :: T.u :: T.u :: T.u :: T.u :: T.u :: T.u :: T.u :: T.u :: T.u :: T.u :: T.u :: T.u :: T.u :: T.u :: T.u :: T.u :: T.u :: T.u :: T.u :: T.u :: T.u :: T.u :: T.u :: T.u :: T.u :: T.u :: T.u :: T.u :: T.u :: T.u :: T.u :: T.u :: T.u :: T.u :: T.u :: T.u :: T.u :: T.u :: T.u :: T.u :: T.u :: T.u :: T.u :: T.u :: T.u :: T.u :: T.u :: T.u :: T.u :: T.u :: T.u :: T.u :: T.u :: T.u :: T.u :: T.u :: T.u :: T.u :: T.u :: T.u :: T.u :: T.u :: T.u :: T.u :: T.u :: T.u :: T.u :: T.u :: T.u :: T.u :: T.u :: T.u :: T.u :: T.u :: T.u :: T.u :: T.u :: T.u :: T.u :: T.u :: [])
def P5 : List PT := [.us 1, (.bx [pI, pI, pI, pI, pI, pI, (.r (.ro 4))]), .us 95]
def S5 (x0 x1 x2 x3 x4 x5 : Int) (x6 : List R) : List T := (T.u :: (T.bx [(tI x0), (tI x1), (tI x2), (tI x3), (tI x4), (tI x5), (T.r (R.ro 4 x6))]) :: T.u :: T.u :: T.u :: T.u :: T.u :: T.u :: T.u :: T.u :: T.u :: T.u :: T.u :: T.u :: T.u :: T.u :: T.u :: T.u :: T.u :: T.u :: T.u :: T.u :: T.u :: T.u :: T.u :: T.u :: T.u :: T.u :: T.u :: T.u :: T.u :: T.u :: T.u :: T.u :: T.u :: T.u :: T.u :: T.u :: T.u :: T.u :: T.u :: T.u :: T.u :: T.u :: T.u :: T.u :: T.u :: T.u :: T.u :: T.u :: T.u :: T.u :: T.u :: T.u :: T.u :: T.u :: T.u :: T.u :: T.u :: T.u :: T.u :: T.u :: T.u :: T.u :: T.u :: T.u :: T.u :: T.u :: T.u :: T.u :: T.u :: T.u :: T.u :: T.u :: T.u :: T.u :: T.u :: T.u :: T.u :: T.u :: T.u :: T.u :: T.u :: T.u :: T.u :: T.u :: T.u :: T.u :: T.u :: T.u :: T.u :: T.u :: T.u :: T.u :: T.u :: T.u :: T.u :: [])
def P6 : List PT := [.us 1, (.bx [pI, pI, pI, pI, pI, pI, (.r (.ro 4))]), .us 1, pI, .us 93]
noncomputable def ML34_4 {β : Type} (l34_4_0 : (Int → Int → Int → Int → Int → Int → List R → Int → Option β) → (Int → Int → Int → Int → Int → Int → List R → Option β) → Int → Int → Int → Int → Int → Int → List R → Int → Option β) (s : List T) : Option ((Ex → List T → Option β) → Option β) :=
  match gTs P6 (clean ((Hn 34).lp 4).1 s) [] with
  | some [.i x0, .i x1, .i x2, .i x3, .i x4, .i x5, .l x6, .i x7] => some fun kk => l34_4_0 (fun x8 x9 xa xb xc xd xe xf => kk Ex.rt (S4 x8 x9 xa xb xc xd xe xf)) (fun xg xh xi xj xk xl xm => kk (Ex.ex 0) (S5 xg xh xi xj xk xl xm)) x0 x1 x2 x3 x4 x5 x6 x7
  | _ => none
theorem e34_4_0 {β : Type} (A : Pr) (B : Pk) (f57_0 : Int → Int → Int → (Bool → Option β) → Option β) (f58_0 : Int → Int → Int → Int → Int → Int → (Int → Int → Int → Int → Option β) → Option β) (f56_0 : Int → Int → Int → Int → (Bool → Option β) → Option β) (l34_4_0 : (Int → Int → Int → Int → Int → Int → List R → Int → Option β) → (Int → Int → Int → Int → Int → Int → List R → Option β) → Int → Int → Int → Int → Int → Int → List R → Int → Option β) (x0 x1 x2 x3 x4 x5 : Int) (x6 : List R) (x7 : Int) (kk : Ex → List T → Option β) :
    uTs P6 [.i x0, .i x1, .i x2, .i x3, .i x4, .i x5, .l x6, .i x7] (fun s _ => evK (mkK Tryz.prog A B [(57, M57_0 f57_0), (58, M58_0 f58_0), (56, M56_0 f56_0)] [] (Hn 34).pt []) X34_4 s (fun e s' => match e with
      | .nm => (match ML34_4 l34_4_0 s' with | some h => h kk | none => none)
      | .ex m => kk (.ex m) (clean ((Hn 34).lp (firstReg X34_4)).2 s')
      | .rt => kk .rt (clean ((Hn 34).lp (firstReg X34_4)).2 s'))) = GL34_4_0 A B f57_0 f58_0 f56_0 l34_4_0 (fun x8 x9 xa xb xc xd xe xf => kk Ex.rt (S4 x8 x9 xa xb xc xd xe xf)) (fun xg xh xi xj xk xl xm => kk (Ex.ex 0) (S5 xg xh xi xj xk xl xm)) x0 x1 x2 x3 x4 x5 x6 x7 := by kernel_rfl
theorem ol34_4 {β : Type} (N : Nat) : ∀ n, SndL (β := β) Tryz.prog Hn (Hn 34) X34_4 (ML34_4 (L34_4_0 re rk N n))
  | 0 => by
    intro s h kk r ha hr
    unfold ML34_4 at ha
    split at ha
    · cases ha; cases hr
    · cases ha
  | n + 1 => by
    have ih := ol34_4 (β := β) N n
    intro s h kk r ha hr
    unfold ML34_4 at ha
    split at ha
    · rename_i hs
      cases ha
      have hk := via_pat hs ((e34_4_0 re rk (F57_0 re rk N) (F58_0 re rk N) (F56_0 re rk N) (L34_4_0 re rk N n) _ _ _ _ _ _ _ _ kk).trans hr)
      exact round_ok (show SndAll Tryz.prog Hn [(57, M57_0 (F57_0 re rk N)), (58, M58_0 (F58_0 re rk N)), (56, M56_0 (F56_0 re rk N))] from ⟨o57_0 N, o58_0 N, o56_0 N, trivial⟩) (spots := []) (by kernel_rfl) trivial ih (hd := clean ((Hn 34).lp 4).1 s) (by rw [i34_4]) hk
    · cases ha
def G97_0 {β : Type} (A : Pr) (B : Pk) (x0 x1 : Int) (k0 : Int → Option β) : Option β :=
    match (A.cm .lss x1 1) with
    | true => (k0 0)
    | false => (match (A.nz x1) with
      | true => none
      | false => (match (A.nz x1) with
        | true => none
        | false => (match (A.cm .lss (A.ar .rem .i64 x0 x1) 0) with
          | true => (k0 (A.ar .sub .i64 (A.ar .quo .i64 x0 x1) 1))
          | false => (k0 (A.ar .quo .i64 x0 x1)))))
def F97_0 {β : Type} (A : Pr) (B : Pk) (N : Nat) (x0 x1 : Int) (k0 : Int → Option β) : Option β :=
  G97_0 A B  x0 x1 k0
def M97_0 {β : Type} (f97_0 : Int → Int → (Int → Option β) → Option β) (a : List T) : Option ((T → List (List T) → Option β) → Option β) :=
  match gTs P2 a [] with
  | some [.i x0, .i x1] => some fun kk => f97_0 x0 x1 (fun x2 => kk (tI x2) [])
  | _ => none
theorem e97_0 {β : Type} (A : Pr) (B : Pk) (x0 x1 : Int) (kk : T → List (List T) → Option β) :
    uTs P2 [.i x0, .i x1] (fun a _ => bodyK (mkK Tryz.prog A B [] [] (Hn 97).pt []) Tryz.f97 a kk) = G97_0 A B  x0 x1 (fun x2 => kk (tI x2) []) := by kernel_rfl
theorem o97_0 {β : Type} (N : Nat) : Snd (β := β) Tryz.prog Hn 97 (M97_0 (F97_0 re rk N)) := by
  intro a h kk r ha hr
  unfold M97_0 at ha
  split at ha
  · rename_i hs
    cases ha
    have hk := via_pat hs ((e97_0 re rk  _ _ kk).trans hr)
    exact fn_ok (f := 97) (fn := Tryz.f97) (H := Hn) (by kernel_rfl) (show SndAll Tryz.prog Hn [] from trivial) (spots := []) (by kernel_rfl) trivial hk
  · cases ha
def G59_0 {β : Type} (A : Pr) (B : Pk) (f96_0 : Int → Int → (Int → Option β) → Option β) (f97_0 : Int → Int → (Int → Option β) → Option β) (x0 x1 x2 x3 x4 x5 : Int) (x6 : List R) (k0 : Int → Option β) : Option β :=
    f96_0 x2 x4 (fun x7 =>
    f97_0 x0 x4 (fun x8 =>
      f96_0 x3 x5 (fun x9 =>
        f97_0 x1 x5 (fun xa =>
          k0 (A.ar .mul .i64 (A.ar .sub .i64 x7 x8) (A.ar .sub .i64 x9 xa))))))
def F59_0 {β : Type} (A : Pr) (B : Pk) (N : Nat) (x0 x1 x2 x3 x4 x5 : Int) (x6 : List R) (k0 : Int → Option β) : Option β :=
  G59_0 A B (F96_0 A B N) (F97_0 A B N) x0 x1 x2 x3 x4 x5 x6 k0
def P7 : List PT := [(.r (.a [(.i .i64), (.i .i64), (.i .i64), (.i .i64), (.i .i64), (.i .i64), (.ro 4)]))]
def M59_0 {β : Type} (f59_0 : Int → Int → Int → Int → Int → Int → List R → (Int → Option β) → Option β) (a : List T) : Option ((T → List (List T) → Option β) → Option β) :=
  match gTs P7 a [] with
  | some [.i x0, .i x1, .i x2, .i x3, .i x4, .i x5, .l x6] => some fun kk => f59_0 x0 x1 x2 x3 x4 x5 x6 (fun x7 => kk (tI x7) [])
  | _ => none
theorem e59_0 {β : Type} (A : Pr) (B : Pk) (f96_0 : Int → Int → (Int → Option β) → Option β) (f97_0 : Int → Int → (Int → Option β) → Option β) (x0 x1 x2 x3 x4 x5 : Int) (x6 : List R) (kk : T → List (List T) → Option β) :
    uTs P7 [.i x0, .i x1, .i x2, .i x3, .i x4, .i x5, .l x6] (fun a _ => bodyK (mkK Tryz.prog A B [(96, M96_0 f96_0), (97, M97_0 f97_0)] [] (Hn 59).pt []) Tryz.f59 a kk) = G59_0 A B f96_0 f97_0 x0 x1 x2 x3 x4 x5 x6 (fun x7 => kk (tI x7) []) := by kernel_rfl
theorem o59_0 {β : Type} (N : Nat) : Snd (β := β) Tryz.prog Hn 59 (M59_0 (F59_0 re rk N)) := by
  intro a h kk r ha hr
  unfold M59_0 at ha
  split at ha
  · rename_i hs
    cases ha
    have hk := via_pat hs ((e59_0 re rk (F96_0 re rk N) (F97_0 re rk N) _ _ _ _ _ _ _ kk).trans hr)
    exact fn_ok (f := 59) (fn := Tryz.f59) (H := Hn) (by kernel_rfl) (show SndAll Tryz.prog Hn [(96, M96_0 (F96_0 re rk N)), (97, M97_0 (F97_0 re rk N))] from ⟨o96_0 N, o97_0 N, trivial⟩) (spots := []) (by kernel_rfl) trivial hk
  · cases ha
def G60_0 {β : Type} (A : Pr) (B : Pk) (f55_0 : Int → Int → Int → Int → (Bool → Option β) → Option β) (x0 x1 x2 x3 : Int) (k0 : Int → Option β) : Option β :=
    f55_0 x0 x1 x2 x3 (fun x4 =>
    match (A.bn x4) with
      | true => (k0 0)
      | false => (k0 (A.ar .mul .i64 (A.ar .sub .i64 x2 x0) (A.ar .sub .i64 x3 x1))))
def F60_0 {β : Type} (A : Pr) (B : Pk) (N : Nat) (x0 x1 x2 x3 : Int) (k0 : Int → Option β) : Option β :=
  G60_0 A B (F55_0 A B N) x0 x1 x2 x3 k0
def M60_0 {β : Type} (f60_0 : Int → Int → Int → Int → (Int → Option β) → Option β) (a : List T) : Option ((T → List (List T) → Option β) → Option β) :=
  match gTs P0 a [] with
  | some [.i x0, .i x1, .i x2, .i x3] => some fun kk => f60_0 x0 x1 x2 x3 (fun x4 => kk (tI x4) [])
  | _ => none
theorem e60_0 {β : Type} (A : Pr) (B : Pk) (f55_0 : Int → Int → Int → Int → (Bool → Option β) → Option β) (x0 x1 x2 x3 : Int) (kk : T → List (List T) → Option β) :
    uTs P0 [.i x0, .i x1, .i x2, .i x3] (fun a _ => bodyK (mkK Tryz.prog A B [(55, M55_0 f55_0)] [] (Hn 60).pt []) Tryz.f60 a kk) = G60_0 A B f55_0 x0 x1 x2 x3 (fun x4 => kk (tI x4) []) := by kernel_rfl
theorem o60_0 {β : Type} (N : Nat) : Snd (β := β) Tryz.prog Hn 60 (M60_0 (F60_0 re rk N)) := by
  intro a h kk r ha hr
  unfold M60_0 at ha
  split at ha
  · rename_i hs
    cases ha
    have hk := via_pat hs ((e60_0 re rk (F55_0 re rk N) _ _ _ _ kk).trans hr)
    exact fn_ok (f := 60) (fn := Tryz.f60) (H := Hn) (by kernel_rfl) (show SndAll Tryz.prog Hn [(55, M55_0 (F55_0 re rk N))] from ⟨o55_0 N, trivial⟩) (spots := []) (by kernel_rfl) trivial hk
  · cases ha
noncomputable def X34_12 : Code := atF Tryz.f34 [true, true, true, true, false, true, false, false]
theorem i34_12 : firstReg X34_12 = 12 := by kernel_rfl
def GL34_12_0 {β : Type} (A : Pr) (B : Pk) (f58_0 : Int → Int → Int → Int → Int → Int → (Int → Int → Int → Int → Option β) → Option β) (f60_0 : Int → Int → Int → Int → (Int → Option β) → Option β) (l34_12_0 : (Int → Option β) → (Option β) → Int → Int → Int → Int → Int → Int → List R → Int → Option β) (k0 : Int → Option β) (k1 : Option β) (x0 x1 x2 x3 x4 x5 : Int) (x6 : List R) (x7 : Int) : Option β :=
    match (A.cm .lss x7 (A.on (A.len x6))) with
    | true => (match (A.ix x7 (A.len x6)) with
      | some x8 => (match (B.okE [(Sh.i .i64), Sh.b, (Sh.i .i64), (Sh.i .i64)] true x6 x8) with
        | true => (f58_0 x0 x1 x2 x3 (B.ci x6 x8 2) (B.ci x6 x8 3) (fun x9 xa xb xc =>
          f60_0 x9 xa xb xc (fun xd =>
            match (A.cm .gtr xd 1048576) with
              | true => (k0 5)
              | false => (l34_12_0 k0 k1 x0 x1 x2 x3 x4 x5 x6 (A.ar .add .i64 x7 1)))))
        | false => none)
      | none => none)
    | false => k1
def L34_12_0 {β : Type} (A : Pr) (B : Pk) (N : Nat) : Nat → (Int → Option β) → (Option β) → Int → Int → Int → Int → Int → Int → List R → Int → Option β
  | 0, _, _, _, _, _, _, _, _, _, _ => none
  | n + 1, k0, k1, x0, x1, x2, x3, x4, x5, x6, x7 =>
    GL34_12_0 A B (F58_0 A B N) (F60_0 A B N) (L34_12_0 A B N n) k0 k1 x0 x1 x2 x3 x4 x5 x6 x7
def P8 : List PT := [.us 2, pI, .us 94]
def S8 (x0 : Int) : List T := (T.u :: T.u :: (tI x0) :: T.u :: T.u :: T.u :: T.u :: T.u :: T.u :: T.u :: T.u :: T.u :: T.u :: T.u :: T.u :: T.u :: T.u :: T.u :: T.u :: T.u :: T.u :: T.u :: T.u :: T.u :: T.u :: T.u :: T.u :: T.u :: T.u :: T.u :: T.u :: T.u :: T.u :: T.u :: T.u :: T.u :: T.u :: T.u :: T.u :: T.u :: T.u :: T.u :: T.u :: T.u :: T.u :: T.u :: T.u :: T.u :: T.u :: T.u :: T.u :: T.u :: T.u :: T.u :: T.u :: T.u :: T.u :: T.u :: T.u :: T.u :: T.u :: T.u :: T.u :: T.u :: T.u :: T.u :: T.u :: T.u :: T.u :: T.u :: T.u :: T.u :: T.u :: T.u :: T.u :: T.u :: T.u :: T.u :: T.u :: T.u :: T.u :: T.u :: T.u :: T.u :: T.u :: T.u :: T.u :: T.u :: T.u :: T.u :: T.u :: T.u :: T.u :: T.u :: T.u :: T.u :: T.u :: [])
def P9 : List PT := [.us 97]
def S9  : List T := (T.u :: T.u :: T.u :: T.u :: T.u :: T.u :: T.u :: T.u :: T.u :: T.u :: T.u :: T.u :: T.u :: T.u :: T.u :: T.u :: T.u :: T.u :: T.u :: T.u :: T.u :: T.u :: T.u :: T.u :: T.u :: T.u :: T.u :: T.u :: T.u :: T.u :: T.u :: T.u :: T.u :: T.u :: T.u :: T.u :: T.u :: T.u :: T.u :: T.u :: T.u :: T.u :: T.u :: T.u :: T.u :: T.u :: T.u :: T.u :: T.u :: T.u :: T.u :: T.u :: T.u :: T.u :: T.u :: T.u :: T.u :: T.u :: T.u :: T.u :: T.u :: T.u :: T.u :: T.u :: T.u :: T.u :: T.u :: T.u :: T.u :: T.u :: T.u :: T.u :: T.u :: T.u :: T.u :: T.u :: T.u :: T.u :: T.u :: T.u :: T.u :: T.u :: T.u :: T.u :: T.u :: T.u :: T.u :: T.u :: T.u :: T.u :: T.u :: T.u :: T.u :: T.u :: T.u :: T.u :: T.u :: [])
def P10 : List PT := [.us 1, (.bx [pI, pI, pI, pI, pI, pI, (.r (.ro 4))]), .us 3, pI, .us 91]
noncomputable def ML34_12 {β : Type} (l34_12_0 : (Int → Option β) → (Option β) → Int → Int → Int → Int → Int → Int → List R → Int → Option β) (s : List T) : Option ((Ex → List T → Option β) → Option β) :=
  match gTs P10 (clean ((Hn 34).lp 12).1 s) [] with
  | some [.i x0, .i x1, .i x2, .i x3, .i x4, .i x5, .l x6, .i x7] => some fun kk => l34_12_0 (fun x8 => kk Ex.rt (S8 x8)) (kk (Ex.ex 2) (S9)) x0 x1 x2 x3 x4 x5 x6 x7
  | _ => none
theorem e34_12_0 {β : Type} (A : Pr) (B : Pk) (f58_0 : Int → Int → Int → Int → Int → Int → (Int → Int → Int → Int → Option β) → Option β) (f60_0 : Int → Int → Int → Int → (Int → Option β) → Option β) (l34_12_0 : (Int → Option β) → (Option β) → Int → Int → Int → Int → Int → Int → List R → Int → Option β) (x0 x1 x2 x3 x4 x5 : Int) (x6 : List R) (x7 : Int) (kk : Ex → List T → Option β) :
    uTs P10 [.i x0, .i x1, .i x2, .i x3, .i x4, .i x5, .l x6, .i x7] (fun s _ => evK (mkK Tryz.prog A B [(58, M58_0 f58_0), (60, M60_0 f60_0)] [] (Hn 34).pt []) X34_12 s (fun e s' => match e with
      | .nm => (match ML34_12 l34_12_0 s' with | some h => h kk | none => none)
      | .ex m => kk (.ex m) (clean ((Hn 34).lp (firstReg X34_12)).2 s')
      | .rt => kk .rt (clean ((Hn 34).lp (firstReg X34_12)).2 s'))) = GL34_12_0 A B f58_0 f60_0 l34_12_0 (fun x8 => kk Ex.rt (S8 x8)) (kk (Ex.ex 2) (S9)) x0 x1 x2 x3 x4 x5 x6 x7 := by kernel_rfl
theorem ol34_12 {β : Type} (N : Nat) : ∀ n, SndL (β := β) Tryz.prog Hn (Hn 34) X34_12 (ML34_12 (L34_12_0 re rk N n))
  | 0 => by
    intro s h kk r ha hr
    unfold ML34_12 at ha
    split at ha
    · cases ha; cases hr
    · cases ha
  | n + 1 => by
    have ih := ol34_12 (β := β) N n
    intro s h kk r ha hr
    unfold ML34_12 at ha
    split at ha
    · rename_i hs
      cases ha
      have hk := via_pat hs ((e34_12_0 re rk (F58_0 re rk N) (F60_0 re rk N) (L34_12_0 re rk N n) _ _ _ _ _ _ _ _ kk).trans hr)
      exact round_ok (show SndAll Tryz.prog Hn [(58, M58_0 (F58_0 re rk N)), (60, M60_0 (F60_0 re rk N))] from ⟨o58_0 N, o60_0 N, trivial⟩) (spots := []) (by kernel_rfl) trivial ih (hd := clean ((Hn 34).lp 12).1 s) (by rw [i34_12]) hk
    · cases ha
def G34_0 {β : Type} (A : Pr) (B : Pk) (f55_0 : Int → Int → Int → Int → (Bool → Option β) → Option β) (f56_0 : Int → Int → Int → Int → (Bool → Option β) → Option β) (f57_0 : Int → Int → Int → (Bool → Option β) → Option β) (f59_0 : Int → Int → Int → Int → Int → Int → List R → (Int → Option β) → Option β) (l34_4_0 : (Int → Int → Int → Int → Int → Int → List R → Int → Option β) → (Int → Int → Int → Int → Int → Int → List R → Option β) → Int → Int → Int → Int → Int → Int → List R → Int → Option β) (l34_12_0 : (Int → Option β) → (Option β) → Int → Int → Int → Int → Int → Int → List R → Int → Option β) (x0 x1 x2 x3 x4 x5 : Int) (x6 : List R) (k0 : Int → Option β) : Option β :=
    f55_0 x0 x1 x2 x3 (fun x7 =>
    match (A.bn x7) with
      | true => (k0 12)
      | false => (f56_0 x0 x1 x2 x3 (fun x8 =>
        match x8 with
          | true => (k0 12)
          | false => (f57_0 x4 1 4096 (fun x9 =>
            match (A.bn x9) with
              | true => (k0 12)
              | false => (f57_0 x5 1 4096 (fun xa =>
                match (A.bn xa) with
                  | true => (k0 12)
                  | false => (f57_0 (A.on (A.len x6)) 1 4 (fun xb =>
                    match (A.bn xb) with
                      | true => (k0 12)
                      | false => (l34_4_0 (fun xc xd xe xf xg xh xi xj =>
                        k0 xj) (fun xk xl xm xn xo xp xq =>
                        f59_0 xk xl xm xn xo xp xq (fun xr =>
                          match (A.cm .gtr xr 1024) with
                            | true => (k0 5)
                            | false => (l34_12_0 (fun xs =>
                              k0 xs) (k0 0) xk xl xm xn xo xp xq 0))) x0 x1 x2 x3 x4 x5 x6 0))))))))))
def F34_0 {β : Type} (A : Pr) (B : Pk) (N : Nat) (x0 x1 x2 x3 x4 x5 : Int) (x6 : List R) (k0 : Int → Option β) : Option β :=
  G34_0 A B (F55_0 A B N) (F56_0 A B N) (F57_0 A B N) (F59_0 A B N) (L34_4_0 A B N N) (L34_12_0 A B N N) x0 x1 x2 x3 x4 x5 x6 k0
def M34_0 {β : Type} (f34_0 : Int → Int → Int → Int → Int → Int → List R → (Int → Option β) → Option β) (a : List T) : Option ((T → List (List T) → Option β) → Option β) :=
  match gTs P7 a [] with
  | some [.i x0, .i x1, .i x2, .i x3, .i x4, .i x5, .l x6] => some fun kk => f34_0 x0 x1 x2 x3 x4 x5 x6 (fun x7 => kk (tI x7) [])
  | _ => none
theorem e34_0 {β : Type} (A : Pr) (B : Pk) (f55_0 : Int → Int → Int → Int → (Bool → Option β) → Option β) (f56_0 : Int → Int → Int → Int → (Bool → Option β) → Option β) (f57_0 : Int → Int → Int → (Bool → Option β) → Option β) (f59_0 : Int → Int → Int → Int → Int → Int → List R → (Int → Option β) → Option β) (l34_4_0 : (Int → Int → Int → Int → Int → Int → List R → Int → Option β) → (Int → Int → Int → Int → Int → Int → List R → Option β) → Int → Int → Int → Int → Int → Int → List R → Int → Option β) (l34_12_0 : (Int → Option β) → (Option β) → Int → Int → Int → Int → Int → Int → List R → Int → Option β) (x0 x1 x2 x3 x4 x5 : Int) (x6 : List R) (kk : T → List (List T) → Option β) :
    uTs P7 [.i x0, .i x1, .i x2, .i x3, .i x4, .i x5, .l x6] (fun a _ => bodyK (mkK Tryz.prog A B [(55, M55_0 f55_0), (56, M56_0 f56_0), (57, M57_0 f57_0), (59, M59_0 f59_0)] [(4, ML34_4 l34_4_0), (12, ML34_12 l34_12_0)] (Hn 34).pt []) Tryz.f34 a kk) = G34_0 A B f55_0 f56_0 f57_0 f59_0 l34_4_0 l34_12_0 x0 x1 x2 x3 x4 x5 x6 (fun x7 => kk (tI x7) []) := by kernel_rfl
theorem o34_0 {β : Type} (N : Nat) : Snd (β := β) Tryz.prog Hn 34 (M34_0 (F34_0 re rk N)) := by
  intro a h kk r ha hr
  unfold M34_0 at ha
  split at ha
  · rename_i hs
    cases ha
    have hk := via_pat hs ((e34_0 re rk (F55_0 re rk N) (F56_0 re rk N) (F57_0 re rk N) (F59_0 re rk N) (L34_4_0 re rk N N) (L34_12_0 re rk N N) _ _ _ _ _ _ _ kk).trans hr)
    exact fn_ok (f := 34) (fn := Tryz.f34) (H := Hn) (by kernel_rfl) (show SndAll Tryz.prog Hn [(55, M55_0 (F55_0 re rk N)), (56, M56_0 (F56_0 re rk N)), (57, M57_0 (F57_0 re rk N)), (59, M59_0 (F59_0 re rk N))] from ⟨o55_0 N, o56_0 N, o57_0 N, o59_0 N, trivial⟩) (spots := [.lp X34_4, .lp X34_12]) (by kernel_rfl) ⟨cut_lp (id := 4) i34_4 (ol34_4 N N) (fun s kk => by kernel_rfl), cut_lp (id := 12) i34_12 (ol34_12 N N) (fun s kk => by kernel_rfl), trivial⟩ hk
  · cases ha
def G98_0 {β : Type} (A : Pr) (B : Pk) (f56_0 : Int → Int → Int → Int → (Bool → Option β) → Option β) (x0 x1 x2 x3 x4 x5 x6 x7 : Int) (k0 : Int → Int → Int → Int → Option β) : Option β :=
    f56_0 (A.mx x0 x4) (A.mx x1 x5) (A.mn x2 x6) (A.mn x3 x7) (fun x8 =>
    match x8 with
      | true => (k0 0 0 0 0)
      | false => (k0 (A.mx x0 x4) (A.mx x1 x5) (A.mn x2 x6) (A.mn x3 x7)))
def F98_0 {β : Type} (A : Pr) (B : Pk) (N : Nat) (x0 x1 x2 x3 x4 x5 x6 x7 : Int) (k0 : Int → Int → Int → Int → Option β) : Option β :=
  G98_0 A B (F56_0 A B N) x0 x1 x2 x3 x4 x5 x6 x7 k0
def P11 : List PT := [(.r (.a [(.i .i64), (.i .i64), (.i .i64), (.i .i64)])), (.r (.a [(.i .i64), (.i .i64), (.i .i64), (.i .i64)]))]
def M98_0 {β : Type} (f98_0 : Int → Int → Int → Int → Int → Int → Int → Int → (Int → Int → Int → Int → Option β) → Option β) (a : List T) : Option ((T → List (List T) → Option β) → Option β) :=
  match gTs P11 a [] with
  | some [.i x0, .i x1, .i x2, .i x3, .i x4, .i x5, .i x6, .i x7] => some fun kk => f98_0 x0 x1 x2 x3 x4 x5 x6 x7 (fun x8 x9 xa xb => kk (T.r (R.a [(R.i .i64 x8), (R.i .i64 x9), (R.i .i64 xa), (R.i .i64 xb)])) [])
  | _ => none
theorem e98_0 {β : Type} (A : Pr) (B : Pk) (f56_0 : Int → Int → Int → Int → (Bool → Option β) → Option β) (x0 x1 x2 x3 x4 x5 x6 x7 : Int) (kk : T → List (List T) → Option β) :
    uTs P11 [.i x0, .i x1, .i x2, .i x3, .i x4, .i x5, .i x6, .i x7] (fun a _ => bodyK (mkK Tryz.prog A B [(56, M56_0 f56_0)] [] (Hn 98).pt []) Tryz.f98 a kk) = G98_0 A B f56_0 x0 x1 x2 x3 x4 x5 x6 x7 (fun x8 x9 xa xb => kk (T.r (R.a [(R.i .i64 x8), (R.i .i64 x9), (R.i .i64 xa), (R.i .i64 xb)])) []) := by kernel_rfl
theorem o98_0 {β : Type} (N : Nat) : Snd (β := β) Tryz.prog Hn 98 (M98_0 (F98_0 re rk N)) := by
  intro a h kk r ha hr
  unfold M98_0 at ha
  split at ha
  · rename_i hs
    cases ha
    have hk := via_pat hs ((e98_0 re rk (F56_0 re rk N) _ _ _ _ _ _ _ _ kk).trans hr)
    exact fn_ok (f := 98) (fn := Tryz.f98) (H := Hn) (by kernel_rfl) (show SndAll Tryz.prog Hn [(56, M56_0 (F56_0 re rk N))] from ⟨o56_0 N, trivial⟩) (spots := []) (by kernel_rfl) trivial hk
  · cases ha
noncomputable def X61_14 : Code := atF Tryz.f61 [true, true, true, true, true, true, true, true, false, true, false, false, true, false, false, true, false, false]
theorem i61_14 : firstReg X61_14 = 14 := by kernel_rfl
def GL61_14_0 {β : Type} (A : Pr) (B : Pk) (f98_0 : Int → Int → Int → Int → Int → Int → Int → Int → (Int → Int → Int → Int → Option β) → Option β) (l61_14_0 : (Q0 β) → Q1 β) (k0 : Q0 β) (x0 x1 x2 x3 x4 x5 x6 x7 x8 : Int) (x9 : List R) (xa xb : Int) : Option β :=
    match (A.cm .lss xb x7) with
    | true => (f98_0 x2 x3 x4 x5 (A.ar .mul .i64 xb x0) (A.ar .mul .i64 xa x1) (A.ar .add .i64 (A.ar .mul .i64 xb x0) x0) (A.ar .add .i64 (A.ar .mul .i64 xa x1) x1) (fun xc xd xe xf =>
      match (A.small (A.len (A.app x9 [(R.a [(R.i .i64 xc), (R.i .i64 xd), (R.i .i64 xe), (R.i .i64 xf)])])) 32) with
        | true => (l61_14_0 k0 x0 x1 x2 x3 x4 x5 x6 x7 x8 (A.app x9 [(R.a [(R.i .i64 xc), (R.i .i64 xd), (R.i .i64 xe), (R.i .i64 xf)])]) xa (A.ar .add .i64 xb 1))
        | false => none))
    | false => (k0 x0 x1 x2 x3 x4 x5 x6 x7 x8 x9 xa)
def L61_14_0 {β : Type} (A : Pr) (B : Pk) (N : Nat) : Nat → (Q0 β) → Q1 β
  | 0, _, _, _, _, _, _, _, _, _, _, _, _, _ => none
  | n + 1, k0, x0, x1, x2, x3, x4, x5, x6, x7, x8, x9, xa, xb =>
    GL61_14_0 A B (F98_0 A B N) (L61_14_0 A B N n) k0 x0 x1 x2 x3 x4 x5 x6 x7 x8 x9 xa xb
def P12 : List PT := [.us 1, pI, pI, (.bx [pI, pI, pI, pI]), .us 3, pI, pI, .us 1, pI, (.own true 4), pI, .us 75]
def S12 (x0 x1 x2 x3 x4 x5 x6 x7 x8 : Int) (x9 : List R) (xa : Int) : List T := (T.u :: (tI x0) :: (tI x1) :: (T.bx [(tI x2), (tI x3), (tI x4), (tI x5)]) :: T.u :: T.u :: T.u :: (tI x6) :: (tI x7) :: T.u :: (tI x8) :: (T.own true 4 x9) :: (tI xa) :: T.u :: T.u :: T.u :: T.u :: T.u :: T.u :: T.u :: T.u :: T.u :: T.u :: T.u :: T.u :: T.u :: T.u :: T.u :: T.u :: T.u :: T.u :: T.u :: T.u :: T.u :: T.u :: T.u :: T.u :: T.u :: T.u :: T.u :: T.u :: T.u :: T.u :: T.u :: T.u :: T.u :: T.u :: T.u :: T.u :: T.u :: T.u :: T.u :: T.u :: T.u :: T.u :: T.u :: T.u :: T.u :: T.u :: T.u :: T.u :: T.u :: T.u :: T.u :: T.u :: T.u :: T.u :: T.u :: T.u :: T.u :: T.u :: T.u :: T.u :: T.u :: T.u :: T.u :: T.u :: T.u :: T.u :: T.u :: T.u :: T.u :: T.u :: T.u :: T.u :: T.u :: T.u :: T.u :: [])
def P13 : List PT := [.us 1, pI, pI, (.bx [pI, pI, pI, pI]), .us 3, pI, pI, .us 1, pI, (.own true 4), pI, pI, .us 74]
noncomputable def ML61_14 {β : Type} (l61_14_0 : (Q0 β) → Q1 β) (s : List T) : Option ((Ex → List T → Option β) → Option β) :=
  match gTs P13 (clean ((Hn 61).lp 14).1 s) [] with
  | some [.i x0, .i x1, .i x2, .i x3, .i x4, .i x5, .i x6, .i x7, .i x8, .l x9, .i xa, .i xb] => some fun kk => l61_14_0 (fun xc xd xe xf xg xh xi xj xk xl xm => kk (Ex.ex 2) (S12 xc xd xe xf xg xh xi xj xk xl xm)) x0 x1 x2 x3 x4 x5 x6 x7 x8 x9 xa xb
  | _ => none
theorem e61_14_0 {β : Type} (A : Pr) (B : Pk) (f98_0 : Int → Int → Int → Int → Int → Int → Int → Int → (Int → Int → Int → Int → Option β) → Option β) (l61_14_0 : (Q0 β) → Q1 β) (x0 x1 x2 x3 x4 x5 x6 x7 x8 : Int) (x9 : List R) (xa xb : Int) (kk : Ex → List T → Option β) :
    uTs P13 [.i x0, .i x1, .i x2, .i x3, .i x4, .i x5, .i x6, .i x7, .i x8, .l x9, .i xa, .i xb] (fun s _ => evK (mkK Tryz.prog A B [(98, M98_0 f98_0)] [] (Hn 61).pt []) X61_14 s (fun e s' => match e with
      | .nm => (match ML61_14 l61_14_0 s' with | some h => h kk | none => none)
      | .ex m => kk (.ex m) (clean ((Hn 61).lp (firstReg X61_14)).2 s')
      | .rt => kk .rt (clean ((Hn 61).lp (firstReg X61_14)).2 s'))) = GL61_14_0 A B f98_0 l61_14_0 (fun xc xd xe xf xg xh xi xj xk xl xm => kk (Ex.ex 2) (S12 xc xd xe xf xg xh xi xj xk xl xm)) x0 x1 x2 x3 x4 x5 x6 x7 x8 x9 xa xb := by kernel_rfl
theorem ol61_14 {β : Type} (N : Nat) : ∀ n, SndL (β := β) Tryz.prog Hn (Hn 61) X61_14 (ML61_14 (L61_14_0 re rk N n))
  | 0 => by
    intro s h kk r ha hr
    unfold ML61_14 at ha
    split at ha
    · cases ha; cases hr
    · cases ha
  | n + 1 => by
    have ih := ol61_14 (β := β) N n
    intro s h kk r ha hr
    unfold ML61_14 at ha
    split at ha
    · rename_i hs
      cases ha
      have hk := via_pat hs ((e61_14_0 re rk (F98_0 re rk N) (L61_14_0 re rk N n) _ _ _ _ _ _ _ _ _ _ _ _ kk).trans hr)
      exact round_ok (show SndAll Tryz.prog Hn [(98, M98_0 (F98_0 re rk N))] from ⟨o98_0 N, trivial⟩) (spots := []) (by kernel_rfl) trivial ih (hd := clean ((Hn 61).lp 14).1 s) (by rw [i61_14]) hk
    · cases ha
noncomputable def X61_11 : Code := atF Tryz.f61 [true, true, true, true, true, true, true, true, false, true, false, false]
theorem i61_11 : firstReg X61_11 = 11 := by kernel_rfl
def GL61_11_0 {β : Type} (A : Pr) (B : Pk) (l61_14_0 : (Q0 β) → Q1 β) (l61_11_0 : (Int → Int → List R → Option β) → Q0 β) (k0 : Int → Int → List R → Option β) (x0 x1 x2 x3 x4 x5 x6 x7 x8 : Int) (x9 : List R) (xa : Int) : Option β :=
    match (A.cm .lss xa x8) with
    | true => (l61_14_0 (fun xb xc xd xe xf xg xh xi xj xk xl =>
      l61_11_0 k0 xb xc xd xe xf xg xh xi xj xk (A.ar .add .i64 xl 1)) x0 x1 x2 x3 x4 x5 x6 x7 x8 x9 xa x6)
    | false => (k0 x0 x1 x9)
def L61_11_0 {β : Type} (A : Pr) (B : Pk) (N : Nat) : Nat → (Int → Int → List R → Option β) → Q0 β
  | 0, _, _, _, _, _, _, _, _, _, _, _, _ => none
  | n + 1, k0, x0, x1, x2, x3, x4, x5, x6, x7, x8, x9, xa =>
    GL61_11_0 A B (L61_14_0 A B N N) (L61_11_0 A B N n) k0 x0 x1 x2 x3 x4 x5 x6 x7 x8 x9 xa
def P14 : List PT := [.us 1, pI, pI, .us 8, (.own true 4), .us 76]
def S14 (x0 x1 : Int) (x2 : List R) : List T := (T.u :: (tI x0) :: (tI x1) :: T.u :: T.u :: T.u :: T.u :: T.u :: T.u :: T.u :: T.u :: (T.own true 4 x2) :: T.u :: T.u :: T.u :: T.u :: T.u :: T.u :: T.u :: T.u :: T.u :: T.u :: T.u :: T.u :: T.u :: T.u :: T.u :: T.u :: T.u :: T.u :: T.u :: T.u :: T.u :: T.u :: T.u :: T.u :: T.u :: T.u :: T.u :: T.u :: T.u :: T.u :: T.u :: T.u :: T.u :: T.u :: T.u :: T.u :: T.u :: T.u :: T.u :: T.u :: T.u :: T.u :: T.u :: T.u :: T.u :: T.u :: T.u :: T.u :: T.u :: T.u :: T.u :: T.u :: T.u :: T.u :: T.u :: T.u :: T.u :: T.u :: T.u :: T.u :: T.u :: T.u :: T.u :: T.u :: T.u :: T.u :: T.u :: T.u :: T.u :: T.u :: T.u :: T.u :: T.u :: T.u :: T.u :: T.u :: [])
noncomputable def ML61_11 {β : Type} (l61_11_0 : (Int → Int → List R → Option β) → Q0 β) (s : List T) : Option ((Ex → List T → Option β) → Option β) :=
  match gTs P12 (clean ((Hn 61).lp 11).1 s) [] with
  | some [.i x0, .i x1, .i x2, .i x3, .i x4, .i x5, .i x6, .i x7, .i x8, .l x9, .i xa] => some fun kk => l61_11_0 (fun xb xc xd => kk (Ex.ex 0) (S14 xb xc xd)) x0 x1 x2 x3 x4 x5 x6 x7 x8 x9 xa
  | _ => none
theorem e61_11_0 {β : Type} (A : Pr) (B : Pk) (l61_14_0 : (Q0 β) → Q1 β) (l61_11_0 : (Int → Int → List R → Option β) → Q0 β) (x0 x1 x2 x3 x4 x5 x6 x7 x8 : Int) (x9 : List R) (xa : Int) (kk : Ex → List T → Option β) :
    uTs P12 [.i x0, .i x1, .i x2, .i x3, .i x4, .i x5, .i x6, .i x7, .i x8, .l x9, .i xa] (fun s _ => evK (mkK Tryz.prog A B [] [(14, ML61_14 l61_14_0)] (Hn 61).pt []) X61_11 s (fun e s' => match e with
      | .nm => (match ML61_11 l61_11_0 s' with | some h => h kk | none => none)
      | .ex m => kk (.ex m) (clean ((Hn 61).lp (firstReg X61_11)).2 s')
      | .rt => kk .rt (clean ((Hn 61).lp (firstReg X61_11)).2 s'))) = GL61_11_0 A B l61_14_0 l61_11_0 (fun xb xc xd => kk (Ex.ex 0) (S14 xb xc xd)) x0 x1 x2 x3 x4 x5 x6 x7 x8 x9 xa := by kernel_rfl
theorem ol61_11 {β : Type} (N : Nat) : ∀ n, SndL (β := β) Tryz.prog Hn (Hn 61) X61_11 (ML61_11 (L61_11_0 re rk N n))
  | 0 => by
    intro s h kk r ha hr
    unfold ML61_11 at ha
    split at ha
    · cases ha; cases hr
    · cases ha
  | n + 1 => by
    have ih := ol61_11 (β := β) N n
    intro s h kk r ha hr
    unfold ML61_11 at ha
    split at ha
    · rename_i hs
      cases ha
      have hk := via_pat hs ((e61_11_0 re rk (L61_14_0 re rk N N) (L61_11_0 re rk N n) _ _ _ _ _ _ _ _ _ _ _ kk).trans hr)
      exact round_ok (show SndAll Tryz.prog Hn [] from trivial) (spots := [.lp X61_14]) (by kernel_rfl) ⟨cut_lp (id := 14) i61_14 (ol61_14 N N) (fun s kk => by kernel_rfl), trivial⟩ ih (hd := clean ((Hn 61).lp 11).1 s) (by rw [i61_11]) hk
    · cases ha
def G61_0 {β : Type} (A : Pr) (B : Pk) (f55_0 : Int → Int → Int → Int → (Bool → Option β) → Option β) (f56_0 : Int → Int → Int → Int → (Bool → Option β) → Option β) (f97_0 : Int → Int → (Int → Option β) → Option β) (f96_0 : Int → Int → (Int → Option β) → Option β) (l61_11_0 : (Int → Int → List R → Option β) → Q0 β) (x0 x1 x2 x3 x4 x5 : Int) (k0 : List R → Option β) : Option β :=
    f55_0 x0 x1 x2 x3 (fun x6 =>
    match (A.bn x6) with
      | true => (k0 [])
      | false => (f56_0 x0 x1 x2 x3 (fun x7 =>
        match x7 with
          | true => (k0 [])
          | false => (match (A.cm .lss x4 1) with
            | true => (k0 [])
            | false => (match (A.cm .lss x5 1) with
              | true => (k0 [])
              | false => (f97_0 x0 x4 (fun x8 =>
                f96_0 x2 x4 (fun x9 =>
                  f97_0 x1 x5 (fun xa =>
                    f96_0 x3 x5 (fun xb =>
                      match (A.cm .gtr (A.ar .mul .i64 (A.ar .sub .i64 x9 x8) (A.ar .sub .i64 xb xa)) 65536) with
                        | true => (k0 [])
                        | false => (l61_11_0 (fun xc xd xe =>
                          k0 xe) x4 x5 x0 x1 x2 x3 x8 x9 xb [] xa)))))))))))
def F61_0 {β : Type} (A : Pr) (B : Pk) (N : Nat) (x0 x1 x2 x3 x4 x5 : Int) (k0 : List R → Option β) : Option β :=
  G61_0 A B (F55_0 A B N) (F56_0 A B N) (F97_0 A B N) (F96_0 A B N) (L61_11_0 A B N N) x0 x1 x2 x3 x4 x5 k0
def M61_0 {β : Type} (f61_0 : Int → Int → Int → Int → Int → Int → (List R → Option β) → Option β) (a : List T) : Option ((T → List (List T) → Option β) → Option β) :=
  match gTs P3 a [] with
  | some [.i x0, .i x1, .i x2, .i x3, .i x4, .i x5] => some fun kk => f61_0 x0 x1 x2 x3 x4 x5 (fun x6 => kk (T.own true 4 x6) [])
  | _ => none
theorem e61_0 {β : Type} (A : Pr) (B : Pk) (f55_0 : Int → Int → Int → Int → (Bool → Option β) → Option β) (f56_0 : Int → Int → Int → Int → (Bool → Option β) → Option β) (f97_0 : Int → Int → (Int → Option β) → Option β) (f96_0 : Int → Int → (Int → Option β) → Option β) (l61_11_0 : (Int → Int → List R → Option β) → Q0 β) (x0 x1 x2 x3 x4 x5 : Int) (kk : T → List (List T) → Option β) :
    uTs P3 [.i x0, .i x1, .i x2, .i x3, .i x4, .i x5] (fun a _ => bodyK (mkK Tryz.prog A B [(55, M55_0 f55_0), (56, M56_0 f56_0), (97, M97_0 f97_0), (96, M96_0 f96_0)] [(11, ML61_11 l61_11_0)] (Hn 61).pt []) Tryz.f61 a kk) = G61_0 A B f55_0 f56_0 f97_0 f96_0 l61_11_0 x0 x1 x2 x3 x4 x5 (fun x6 => kk (T.own true 4 x6) []) := by kernel_rfl
theorem o61_0 {β : Type} (N : Nat) : Snd (β := β) Tryz.prog Hn 61 (M61_0 (F61_0 re rk N)) := by
  intro a h kk r ha hr
  unfold M61_0 at ha
  split at ha
  · rename_i hs
    cases ha
    have hk := via_pat hs ((e61_0 re rk (F55_0 re rk N) (F56_0 re rk N) (F97_0 re rk N) (F96_0 re rk N) (L61_11_0 re rk N N) _ _ _ _ _ _ kk).trans hr)
    exact fn_ok (f := 61) (fn := Tryz.f61) (H := Hn) (by kernel_rfl) (show SndAll Tryz.prog Hn [(55, M55_0 (F55_0 re rk N)), (56, M56_0 (F56_0 re rk N)), (97, M97_0 (F97_0 re rk N)), (96, M96_0 (F96_0 re rk N))] from ⟨o55_0 N, o56_0 N, o97_0 N, o96_0 N, trivial⟩) (spots := [.lp X61_11]) (by kernel_rfl) ⟨cut_lp (id := 11) i61_11 (ol61_11 N N) (fun s kk => by kernel_rfl), trivial⟩ hk
  · cases ha
def G36_0 {β : Type} (A : Pr) (B : Pk) (f34_0 : Int → Int → Int → Int → Int → Int → List R → (Int → Option β) → Option β) (f61_0 : Int → Int → Int → Int → Int → Int → (List R → Option β) → Option β) (x0 x1 x2 x3 x4 x5 : Int) (x6 : List R) (k0 : List R → Option β) : Option β :=
    f34_0 x0 x1 x2 x3 x4 x5 x6 (fun x7 =>
    match (A.cm .neq x7 0) with
      | true => (k0 [])
      | false => (f61_0 x0 x1 x2 x3 x4 x5 (fun x8 =>
        k0 x8)))
def F36_0 {β : Type} (A : Pr) (B : Pk) (N : Nat) (x0 x1 x2 x3 x4 x5 : Int) (x6 : List R) (k0 : List R → Option β) : Option β :=
  G36_0 A B (F34_0 A B N) (F61_0 A B N) x0 x1 x2 x3 x4 x5 x6 k0
def M36_0 {β : Type} (f36_0 : Int → Int → Int → Int → Int → Int → List R → (List R → Option β) → Option β) (a : List T) : Option ((T → List (List T) → Option β) → Option β) :=
  match gTs P7 a [] with
  | some [.i x0, .i x1, .i x2, .i x3, .i x4, .i x5, .l x6] => some fun kk => f36_0 x0 x1 x2 x3 x4 x5 x6 (fun x7 => kk (T.own true 4 x7) [])
  | _ => none
theorem e36_0 {β : Type} (A : Pr) (B : Pk) (f34_0 : Int → Int → Int → Int → Int → Int → List R → (Int → Option β) → Option β) (f61_0 : Int → Int → Int → Int → Int → Int → (List R → Option β) → Option β) (x0 x1 x2 x3 x4 x5 : Int) (x6 : List R) (kk : T → List (List T) → Option β) :
    uTs P7 [.i x0, .i x1, .i x2, .i x3, .i x4, .i x5, .l x6] (fun a _ => bodyK (mkK Tryz.prog A B [(34, M34_0 f34_0), (61, M61_0 f61_0)] [] (Hn 36).pt []) Tryz.f36 a kk) = G36_0 A B f34_0 f61_0 x0 x1 x2 x3 x4 x5 x6 (fun x7 => kk (T.own true 4 x7) []) := by kernel_rfl
theorem o36_0 {β : Type} (N : Nat) : Snd (β := β) Tryz.prog Hn 36 (M36_0 (F36_0 re rk N)) := by
  intro a h kk r ha hr
  unfold M36_0 at ha
  split at ha
  · rename_i hs
    cases ha
    have hk := via_pat hs ((e36_0 re rk (F34_0 re rk N) (F61_0 re rk N) _ _ _ _ _ _ _ kk).trans hr)
    exact fn_ok (f := 36) (fn := Tryz.f36) (H := Hn) (by kernel_rfl) (show SndAll Tryz.prog Hn [(34, M34_0 (F34_0 re rk N)), (61, M61_0 (F61_0 re rk N))] from ⟨o34_0 N, o61_0 N, trivial⟩) (spots := []) (by kernel_rfl) trivial hk
  · cases ha
def G62_0 {β : Type} (A : Pr) (B : Pk) (x0 x1 x2 x3 x4 : Int) (x5 : List R) (x6 x7 : Int) (x8 x9 xa xb xc xd xe xf : Bool) (xg : List R) (xh xi : Int) (k0 : Bool → Option β) : Option β :=
    match (A.cm .geq x0 1) with
    | true => (match (A.cm .leq x0 3) with
      | true => (match (A.cm .geq x2 0) with
        | true => (match (A.cm .leq x2 2) with
          | true => (match (A.cm .geq x6 1) with
            | true => (k0 (A.cm .leq x6 5))
            | false => (k0 false))
          | false => (k0 false))
        | false => (k0 false))
      | false => (k0 false))
    | false => (k0 false)
def F62_0 {β : Type} (A : Pr) (B : Pk) (N : Nat) (x0 x1 x2 x3 x4 : Int) (x5 : List R) (x6 x7 : Int) (x8 x9 xa xb xc xd xe xf : Bool) (xg : List R) (xh xi : Int) (k0 : Bool → Option β) : Option β :=
  G62_0 A B  x0 x1 x2 x3 x4 x5 x6 x7 x8 x9 xa xb xc xd xe xf xg xh xi k0
def P15 : List PT := [(.r (.a [(.i .i64), (.i .i64), (.i .i64), (.i .i64), (.i .i64), (.ro 2), (.i .i64), (.i .i64), .b, .b, .b, .b, .b, .b, .b, .b, (.ro 1), (.i .i64), (.i .i64)]))]
def M62_0 {β : Type} (f62_0 : Int → Int → Int → Int → Int → List R → Int → Int → Bool → Bool → Bool → Bool → Bool → Bool → Bool → Bool → List R → Int → Int → (Bool → Option β) → Option β) (a : List T) : Option ((T → List (List T) → Option β) → Option β) :=
  match gTs P15 a [] with
  | some [.i x0, .i x1, .i x2, .i x3, .i x4, .l x5, .i x6, .i x7, .b x8, .b x9, .b xa, .b xb, .b xc, .b xd, .b xe, .b xf, .l xg, .i xh, .i xi] => some fun kk => f62_0 x0 x1 x2 x3 x4 x5 x6 x7 x8 x9 xa xb xc xd xe xf xg xh xi (fun xj => kk (tB xj) [])
  | _ => none
theorem e62_0 {β : Type} (A : Pr) (B : Pk) (x0 x1 x2 x3 x4 : Int) (x5 : List R) (x6 x7 : Int) (x8 x9 xa xb xc xd xe xf : Bool) (xg : List R) (xh xi : Int) (kk : T → List (List T) → Option β) :
    uTs P15 [.i x0, .i x1, .i x2, .i x3, .i x4, .l x5, .i x6, .i x7, .b x8, .b x9, .b xa, .b xb, .b xc, .b xd, .b xe, .b xf, .l xg, .i xh, .i xi] (fun a _ => bodyK (mkK Tryz.prog A B [] [] (Hn 62).pt []) Tryz.f62 a kk) = G62_0 A B  x0 x1 x2 x3 x4 x5 x6 x7 x8 x9 xa xb xc xd xe xf xg xh xi (fun xj => kk (tB xj) []) := by kernel_rfl
theorem o62_0 {β : Type} (N : Nat) : Snd (β := β) Tryz.prog Hn 62 (M62_0 (F62_0 re rk N)) := by
  intro a h kk r ha hr
  unfold M62_0 at ha
  split at ha
  · rename_i hs
    cases ha
    have hk := via_pat hs ((e62_0 re rk  _ _ _ _ _ _ _ _ _ _ _ _ _ _ _ _ _ _ _ kk).trans hr)
    exact fn_ok (f := 62) (fn := Tryz.f62) (H := Hn) (by kernel_rfl) (show SndAll Tryz.prog Hn [] from trivial) (spots := []) (by kernel_rfl) trivial hk
  · cases ha
noncomputable def X63_4 : Code := atF Tryz.f63 [true, true, false, true, false, false]
theorem i63_4 : firstReg X63_4 = 4 := by kernel_rfl
def GL63_4_0 {β : Type} (A : Pr) (B : Pk) (f57_0 : Int → Int → Int → (Bool → Option β) → Option β) (l63_4_0 : (Q2 β) → (Q3 β) → Q4 β) (k0 : Q2 β) (k1 : Q3 β) (x0 x1 x2 x3 x4 : Int) (x5 : List R) (x6 x7 : Int) (x8 x9 xa xb xc xd xe xf : Bool) (xg : List R) (xh xi xj : Int) : Option β :=
    match (A.cm .lss xj (A.on (A.len xg))) with
    | true => (match (A.ix xj (A.len xg)) with
      | some xk => (match (B.okE [(Sh.i .i64)] false xg xk) with
        | true => (f57_0 (B.ci xg xk 0) 1 65536 (fun xl =>
          match (A.bn xl) with
            | true => (k0 x0 x1 x2 x3 x4 x5 x6 x7 x8 x9 xa xb xc xd xe xf xg xh xi false)
            | false => (l63_4_0 k0 k1 x0 x1 x2 x3 x4 x5 x6 x7 x8 x9 xa xb xc xd xe xf xg xh xi (A.ar .add .i64 xj 1))))
        | false => none)
      | none => none)
    | false => (k1 x0 x1 x2 x3 x4 x5 x6 x7 x8 x9 xa xb xc xd xe xf xg xh xi)
def L63_4_0 {β : Type} (A : Pr) (B : Pk) (N : Nat) : Nat → (Q2 β) → (Q3 β) → Q4 β
  | 0, _, _, _, _, _, _, _, _, _, _, _, _, _, _, _, _, _, _, _, _, _, _ => none
  | n + 1, k0, k1, x0, x1, x2, x3, x4, x5, x6, x7, x8, x9, xa, xb, xc, xd, xe, xf, xg, xh, xi, xj =>
    GL63_4_0 A B (F57_0 A B N) (L63_4_0 A B N n) k0 k1 x0 x1 x2 x3 x4 x5 x6 x7 x8 x9 xa xb xc xd xe xf xg xh xi xj
def P16 : List PT := [.us 1, (.bx [pI, pI, pI, pI, pI, (.r (.ro 2)), pI, pI, pB, pB, pB, pB, pB, pB, pB, pB, (.r (.ro 1)), pI, pI]), pB, .us 100]
def S16 (x0 x1 x2 x3 x4 : Int) (x5 : List R) (x6 x7 : Int) (x8 x9 xa xb xc xd xe xf : Bool) (xg : List R) (xh xi : Int) (xj : Bool) : List T := (T.u :: (T.bx [(tI x0), (tI x1), (tI x2), (tI x3), (tI x4), (T.r (R.ro 2 x5)), (tI x6), (tI x7), (tB x8), (tB x9), (tB xa), (tB xb), (tB xc), (tB xd), (tB xe), (tB xf), (T.r (R.ro 1 xg)), (tI xh), (tI xi)]) :: (tB xj) :: T.u :: T.u :: T.u :: T.u :: T.u :: T.u :: T.u :: T.u :: T.u :: T.u :: T.u :: T.u :: T.u :: T.u :: T.u :: T.u :: T.u :: T.u :: T.u :: T.u :: T.u :: T.u :: T.u :: T.u :: T.u :: T.u :: T.u :: T.u :: T.u :: T.u :: T.u :: T.u :: T.u :: T.u :: T.u :: T.u :: T.u :: T.u :: T.u :: T.u :: T.u :: T.u :: T.u :: T.u :: T.u :: T.u :: T.u :: T.u :: T.u :: T.u :: T.u :: T.u :: T.u :: T.u :: T.u :: T.u :: T.u :: T.u :: T.u :: T.u :: T.u :: T.u :: T.u :: T.u :: T.u :: T.u :: T.u :: T.u :: T.u :: T.u :: T.u :: T.u :: T.u :: T.u :: T.u :: T.u :: T.u :: T.u :: T.u :: T.u :: T.u :: T.u :: T.u :: T.u :: T.u :: T.u :: T.u :: T.u :: T.u :: T.u :: T.u :: T.u :: T.u :: T.u :: T.u :: T.u :: T.u :: T.u :: T.u :: T.u :: [])
def P17 : List PT := [.us 1, (.bx [pI, pI, pI, pI, pI, (.r (.ro 2)), pI, pI, pB, pB, pB, pB, pB, pB, pB, pB, (.r (.ro 1)), pI, pI]), .us 101]
def S17 (x0 x1 x2 x3 x4 : Int) (x5 : List R) (x6 x7 : Int) (x8 x9 xa xb xc xd xe xf : Bool) (xg : List R) (xh xi : Int) : List T := (T.u :: (T.bx [(tI x0), (tI x1), (tI x2), (tI x3), (tI x4), (T.r (R.ro 2 x5)), (tI x6), (tI x7), (tB x8), (tB x9), (tB xa), (tB xb), (tB xc), (tB xd), (tB xe), (tB xf), (T.r (R.ro 1 xg)), (tI xh), (tI xi)]) :: T.u :: T.u :: T.u :: T.u :: T.u :: T.u :: T.u :: T.u :: T.u :: T.u :: T.u :: T.u :: T.u :: T.u :: T.u :: T.u :: T.u :: T.u :: T.u :: T.u :: T.u :: T.u :: T.u :: T.u :: T.u :: T.u :: T.u :: T.u :: T.u :: T.u :: T.u :: T.u :: T.u :: T.u :: T.u :: T.u :: T.u :: T.u :: T.u :: T.u :: T.u :: T.u :: T.u :: T.u :: T.u :: T.u :: T.u :: T.u :: T.u :: T.u :: T.u :: T.u :: T.u :: T.u :: T.u :: T.u :: T.u :: T.u :: T.u :: T.u :: T.u :: T.u :: T.u :: T.u :: T.u :: T.u :: T.u :: T.u :: T.u :: T.u :: T.u :: T.u :: T.u :: T.u :: T.u :: T.u :: T.u :: T.u :: T.u :: T.u :: T.u :: T.u :: T.u :: T.u :: T.u :: T.u :: T.u :: T.u :: T.u :: T.u :: T.u :: T.u :: T.u :: T.u :: T.u :: T.u :: T.u :: T.u :: T.u :: T.u :: T.u :: [])
def P18 : List PT := [.us 1, (.bx [pI, pI, pI, pI, pI, (.r (.ro 2)), pI, pI, pB, pB, pB, pB, pB, pB, pB, pB, (.r (.ro 1)), pI, pI]), .us 1, pI, .us 99]
noncomputable def ML63_4 {β : Type} (l63_4_0 : (Q2 β) → (Q3 β) → Q4 β) (s : List T) : Option ((Ex → List T → Option β) → Option β) :=
  match gTs P18 (clean ((Hn 63).lp 4).1 s) [] with
  | some [.i x0, .i x1, .i x2, .i x3, .i x4, .l x5, .i x6, .i x7, .b x8, .b x9, .b xa, .b xb, .b xc, .b xd, .b xe, .b xf, .l xg, .i xh, .i xi, .i xj] => some fun kk => l63_4_0 (fun xk xl xm xn xo xp xq xr xs xt xu xv xw xx xy xz x10 x11 x12 x13 => kk Ex.rt (S16 xk xl xm xn xo xp xq xr xs xt xu xv xw xx xy xz x10 x11 x12 x13)) (fun x14 x15 x16 x17 x18 x19 x1a x1b x1c x1d x1e x1f x1g x1h x1i x1j x1k x1l x1m => kk (Ex.ex 0) (S17 x14 x15 x16 x17 x18 x19 x1a x1b x1c x1d x1e x1f x1g x1h x1i x1j x1k x1l x1m)) x0 x1 x2 x3 x4 x5 x6 x7 x8 x9 xa xb xc xd xe xf xg xh xi xj
  | _ => none
theorem e63_4_0 {β : Type} (A : Pr) (B : Pk) (f57_0 : Int → Int → Int → (Bool → Option β) → Option β) (l63_4_0 : (Q2 β) → (Q3 β) → Q4 β) (x0 x1 x2 x3 x4 : Int) (x5 : List R) (x6 x7 : Int) (x8 x9 xa xb xc xd xe xf : Bool) (xg : List R) (xh xi xj : Int) (kk : Ex → List T → Option β) :
    uTs P18 [.i x0, .i x1, .i x2, .i x3, .i x4, .l x5, .i x6, .i x7, .b x8, .b x9, .b xa, .b xb, .b xc, .b xd, .b xe, .b xf, .l xg, .i xh, .i xi, .i xj] (fun s _ => evK (mkK Tryz.prog A B [(57, M57_0 f57_0)] [] (Hn 63).pt []) X63_4 s (fun e s' => match e with
      | .nm => (match ML63_4 l63_4_0 s' with | some h => h kk | none => none)
      | .ex m => kk (.ex m) (clean ((Hn 63).lp (firstReg X63_4)).2 s')
      | .rt => kk .rt (clean ((Hn 63).lp (firstReg X63_4)).2 s'))) = GL63_4_0 A B f57_0 l63_4_0 (fun xk xl xm xn xo xp xq xr xs xt xu xv xw xx xy xz x10 x11 x12 x13 => kk Ex.rt (S16 xk xl xm xn xo xp xq xr xs xt xu xv xw xx xy xz x10 x11 x12 x13)) (fun x14 x15 x16 x17 x18 x19 x1a x1b x1c x1d x1e x1f x1g x1h x1i x1j x1k x1l x1m => kk (Ex.ex 0) (S17 x14 x15 x16 x17 x18 x19 x1a x1b x1c x1d x1e x1f x1g x1h x1i x1j x1k x1l x1m)) x0 x1 x2 x3 x4 x5 x6 x7 x8 x9 xa xb xc xd xe xf xg xh xi xj := by kernel_rfl
theorem ol63_4 {β : Type} (N : Nat) : ∀ n, SndL (β := β) Tryz.prog Hn (Hn 63) X63_4 (ML63_4 (L63_4_0 re rk N n))
  | 0 => by
    intro s h kk r ha hr
    unfold ML63_4 at ha
    split at ha
    · cases ha; cases hr
    · cases ha
  | n + 1 => by
    have ih := ol63_4 (β := β) N n
    intro s h kk r ha hr
    unfold ML63_4 at ha
    split at ha
    · rename_i hs
      cases ha
      have hk := via_pat hs ((e63_4_0 re rk (F57_0 re rk N) (L63_4_0 re rk N n) _ _ _ _ _ _ _ _ _ _ _ _ _ _ _ _ _ _ _ _ kk).trans hr)
      exact round_ok (show SndAll Tryz.prog Hn [(57, M57_0 (F57_0 re rk N))] from ⟨o57_0 N, trivial⟩) (spots := []) (by kernel_rfl) trivial ih (hd := clean ((Hn 63).lp 4).1 s) (by rw [i63_4]) hk
    · cases ha
noncomputable def X63_13 : Code := atF Tryz.f63 [true, true, true, true, true, false, true, false, false]
theorem i63_13 : firstReg X63_13 = 13 := by kernel_rfl
def GL63_13_0 {β : Type} (A : Pr) (B : Pk) (f57_0 : Int → Int → Int → (Bool → Option β) → Option β) (l63_13_0 : (Bool → Option β) → (Option β) → Q4 β) (k0 : Bool → Option β) (k1 : Option β) (x0 x1 x2 x3 x4 : Int) (x5 : List R) (x6 x7 : Int) (x8 x9 xa xb xc xd xe xf : Bool) (xg : List R) (xh xi xj : Int) : Option β :=
    match (A.cm .lss xj (A.on (A.len x5))) with
    | true => (match (A.ix xj (A.len x5)) with
      | some xk => (match (B.okE [(Sh.i .i64), (Sh.i .i64)] true x5 xk) with
        | true => (f57_0 (B.ci x5 xk 0) (A.mn xj 1) 12 (fun xl =>
          match (A.bn xl) with
            | true => (k0 false)
            | false => (match (A.ix xj (A.len x5)) with
              | some xm => (match (B.okE [(Sh.i .i64), (Sh.i .i64)] true x5 xm) with
                | true => (f57_0 (B.ci x5 xm 1) (A.mn xj 1) 12 (fun xn =>
                  match (A.bn xn) with
                    | true => (k0 false)
                    | false => (l63_13_0 k0 k1 x0 x1 x2 x3 x4 x5 x6 x7 x8 x9 xa xb xc xd xe xf xg xh xi (A.ar .add .i64 xj 1))))
                | false => none)
              | none => none)))
        | false => none)
      | none => none)
    | false => k1
def L63_13_0 {β : Type} (A : Pr) (B : Pk) (N : Nat) : Nat → (Bool → Option β) → (Option β) → Q4 β
  | 0, _, _, _, _, _, _, _, _, _, _, _, _, _, _, _, _, _, _, _, _, _, _ => none
  | n + 1, k0, k1, x0, x1, x2, x3, x4, x5, x6, x7, x8, x9, xa, xb, xc, xd, xe, xf, xg, xh, xi, xj =>
    GL63_13_0 A B (F57_0 A B N) (L63_13_0 A B N n) k0 k1 x0 x1 x2 x3 x4 x5 x6 x7 x8 x9 xa xb xc xd xe xf xg xh xi xj
def P19 : List PT := [.us 2, pB, .us 100]
def S19 (x0 : Bool) : List T := (T.u :: T.u :: (tB x0) :: T.u :: T.u :: T.u :: T.u :: T.u :: T.u :: T.u :: T.u :: T.u :: T.u :: T.u :: T.u :: T.u :: T.u :: T.u :: T.u :: T.u :: T.u :: T.u :: T.u :: T.u :: T.u :: T.u :: T.u :: T.u :: T.u :: T.u :: T.u :: T.u :: T.u :: T.u :: T.u :: T.u :: T.u :: T.u :: T.u :: T.u :: T.u :: T.u :: T.u :: T.u :: T.u :: T.u :: T.u :: T.u :: T.u :: T.u :: T.u :: T.u :: T.u :: T.u :: T.u :: T.u :: T.u :: T.u :: T.u :: T.u :: T.u :: T.u :: T.u :: T.u :: T.u :: T.u :: T.u :: T.u :: T.u :: T.u :: T.u :: T.u :: T.u :: T.u :: T.u :: T.u :: T.u :: T.u :: T.u :: T.u :: T.u :: T.u :: T.u :: T.u :: T.u :: T.u :: T.u :: T.u :: T.u :: T.u :: T.u :: T.u :: T.u :: T.u :: T.u :: T.u :: T.u :: T.u :: T.u :: T.u :: T.u :: T.u :: T.u :: [])
def P20 : List PT := [.us 103]
def S20  : List T := (T.u :: T.u :: T.u :: T.u :: T.u :: T.u :: T.u :: T.u :: T.u :: T.u :: T.u :: T.u :: T.u :: T.u :: T.u :: T.u :: T.u :: T.u :: T.u :: T.u :: T.u :: T.u :: T.u :: T.u :: T.u :: T.u :: T.u :: T.u :: T.u :: T.u :: T.u :: T.u :: T.u :: T.u :: T.u :: T.u :: T.u :: T.u :: T.u :: T.u :: T.u :: T.u :: T.u :: T.u :: T.u :: T.u :: T.u :: T.u :: T.u :: T.u :: T.u :: T.u :: T.u :: T.u :: T.u :: T.u :: T.u :: T.u :: T.u :: T.u :: T.u :: T.u :: T.u :: T.u :: T.u :: T.u :: T.u :: T.u :: T.u :: T.u :: T.u :: T.u :: T.u :: T.u :: T.u :: T.u :: T.u :: T.u :: T.u :: T.u :: T.u :: T.u :: T.u :: T.u :: T.u :: T.u :: T.u :: T.u :: T.u :: T.u :: T.u :: T.u :: T.u :: T.u :: T.u :: T.u :: T.u :: T.u :: T.u :: T.u :: T.u :: T.u :: T.u :: [])
def P21 : List PT := [.us 1, (.bx [pI, pI, pI, pI, pI, (.r (.ro 2)), pI, pI, pB, pB, pB, pB, pB, pB, pB, pB, (.r (.ro 1)), pI, pI]), .us 2, pI, .us 98]
noncomputable def ML63_13 {β : Type} (l63_13_0 : (Bool → Option β) → (Option β) → Q4 β) (s : List T) : Option ((Ex → List T → Option β) → Option β) :=
  match gTs P21 (clean ((Hn 63).lp 13).1 s) [] with
  | some [.i x0, .i x1, .i x2, .i x3, .i x4, .l x5, .i x6, .i x7, .b x8, .b x9, .b xa, .b xb, .b xc, .b xd, .b xe, .b xf, .l xg, .i xh, .i xi, .i xj] => some fun kk => l63_13_0 (fun xk => kk Ex.rt (S19 xk)) (kk (Ex.ex 2) (S20)) x0 x1 x2 x3 x4 x5 x6 x7 x8 x9 xa xb xc xd xe xf xg xh xi xj
  | _ => none
theorem e63_13_0 {β : Type} (A : Pr) (B : Pk) (f57_0 : Int → Int → Int → (Bool → Option β) → Option β) (l63_13_0 : (Bool → Option β) → (Option β) → Q4 β) (x0 x1 x2 x3 x4 : Int) (x5 : List R) (x6 x7 : Int) (x8 x9 xa xb xc xd xe xf : Bool) (xg : List R) (xh xi xj : Int) (kk : Ex → List T → Option β) :
    uTs P21 [.i x0, .i x1, .i x2, .i x3, .i x4, .l x5, .i x6, .i x7, .b x8, .b x9, .b xa, .b xb, .b xc, .b xd, .b xe, .b xf, .l xg, .i xh, .i xi, .i xj] (fun s _ => evK (mkK Tryz.prog A B [(57, M57_0 f57_0)] [] (Hn 63).pt []) X63_13 s (fun e s' => match e with
      | .nm => (match ML63_13 l63_13_0 s' with | some h => h kk | none => none)
      | .ex m => kk (.ex m) (clean ((Hn 63).lp (firstReg X63_13)).2 s')
      | .rt => kk .rt (clean ((Hn 63).lp (firstReg X63_13)).2 s'))) = GL63_13_0 A B f57_0 l63_13_0 (fun xk => kk Ex.rt (S19 xk)) (kk (Ex.ex 2) (S20)) x0 x1 x2 x3 x4 x5 x6 x7 x8 x9 xa xb xc xd xe xf xg xh xi xj := by kernel_rfl
theorem ol63_13 {β : Type} (N : Nat) : ∀ n, SndL (β := β) Tryz.prog Hn (Hn 63) X63_13 (ML63_13 (L63_13_0 re rk N n))
  | 0 => by
    intro s h kk r ha hr
    unfold ML63_13 at ha
    split at ha
    · cases ha; cases hr
    · cases ha
  | n + 1 => by
    have ih := ol63_13 (β := β) N n
    intro s h kk r ha hr
    unfold ML63_13 at ha
    split at ha
    · rename_i hs
      cases ha
      have hk := via_pat hs ((e63_13_0 re rk (F57_0 re rk N) (L63_13_0 re rk N n) _ _ _ _ _ _ _ _ _ _ _ _ _ _ _ _ _ _ _ _ kk).trans hr)
      exact round_ok (show SndAll Tryz.prog Hn [(57, M57_0 (F57_0 re rk N))] from ⟨o57_0 N, trivial⟩) (spots := []) (by kernel_rfl) trivial ih (hd := clean ((Hn 63).lp 13).1 s) (by rw [i63_13]) hk
    · cases ha
def G63_0 {β : Type} (A : Pr) (B : Pk) (f57_0 : Int → Int → Int → (Bool → Option β) → Option β) (l63_4_0 : (Q2 β) → (Q3 β) → Q4 β) (l63_13_0 : (Bool → Option β) → (Option β) → Q4 β) (x0 x1 x2 x3 x4 : Int) (x5 : List R) (x6 x7 : Int) (x8 x9 xa xb xc xd xe xf : Bool) (xg : List R) (xh xi : Int) (k0 : Bool → Option β) : Option β :=
    f57_0 x1 0 5 (fun xj =>
    match (A.bn xj) with
      | true => (k0 false)
      | false => (f57_0 x3 2 6 (fun xk =>
        match (A.bn xk) with
          | true => (k0 false)
          | false => (f57_0 x4 2 6 (fun xl =>
            match (A.bn xl) with
              | true => (k0 false)
              | false => (f57_0 x7 1 16 (fun xm =>
                match (A.bn xm) with
                  | true => (k0 false)
                  | false => (f57_0 xh 8 32 (fun xn =>
                    match (A.bn xn) with
                      | true => (k0 false)
                      | false => (f57_0 xi 0 30 (fun xo =>
                        match (A.bn xo) with
                          | true => (k0 false)
                          | false => (match (A.cm .neq (A.on (A.len xg)) (A.ar .add .i64 (A.ar .mul .i64 3 x1) 1)) with
                            | true => (k0 false)
                            | false => (l63_4_0 (fun xp xq xr xs xt xu xv xw xx xy xz x10 x11 x12 x13 x14 x15 x16 x17 x18 =>
                              k0 x18) (fun x19 x1a x1b x1c x1d x1e x1f x1g x1h x1i x1j x1k x1l x1m x1n x1o x1p x1q x1r =>
                              match (A.cm .eql (A.on (A.len x1e)) 0) with
                                | true => (k0 true)
                                | false => (match (A.cm .neq (A.on (A.len x1e)) (A.ar .add .i64 x1a 1)) with
                                  | true => (k0 false)
                                  | false => (l63_13_0 (fun x1s =>
                                    k0 x1s) (k0 true) x19 x1a x1b x1c x1d x1e x1f x1g x1h x1i x1j x1k x1l x1m x1n x1o x1p x1q x1r 0))) x0 x1 x2 x3 x4 x5 x6 x7 x8 x9 xa xb xc xd xe xf xg xh xi 0)))))))))))))
def F63_0 {β : Type} (A : Pr) (B : Pk) (N : Nat) (x0 x1 x2 x3 x4 : Int) (x5 : List R) (x6 x7 : Int) (x8 x9 xa xb xc xd xe xf : Bool) (xg : List R) (xh xi : Int) (k0 : Bool → Option β) : Option β :=
  G63_0 A B (F57_0 A B N) (L63_4_0 A B N N) (L63_13_0 A B N N) x0 x1 x2 x3 x4 x5 x6 x7 x8 x9 xa xb xc xd xe xf xg xh xi k0
def M63_0 {β : Type} (f63_0 : Int → Int → Int → Int → Int → List R → Int → Int → Bool → Bool → Bool → Bool → Bool → Bool → Bool → Bool → List R → Int → Int → (Bool → Option β) → Option β) (a : List T) : Option ((T → List (List T) → Option β) → Option β) :=
  match gTs P15 a [] with
  | some [.i x0, .i x1, .i x2, .i x3, .i x4, .l x5, .i x6, .i x7, .b x8, .b x9, .b xa, .b xb, .b xc, .b xd, .b xe, .b xf, .l xg, .i xh, .i xi] => some fun kk => f63_0 x0 x1 x2 x3 x4 x5 x6 x7 x8 x9 xa xb xc xd xe xf xg xh xi (fun xj => kk (tB xj) [])
  | _ => none
theorem e63_0 {β : Type} (A : Pr) (B : Pk) (f57_0 : Int → Int → Int → (Bool → Option β) → Option β) (l63_4_0 : (Q2 β) → (Q3 β) → Q4 β) (l63_13_0 : (Bool → Option β) → (Option β) → Q4 β) (x0 x1 x2 x3 x4 : Int) (x5 : List R) (x6 x7 : Int) (x8 x9 xa xb xc xd xe xf : Bool) (xg : List R) (xh xi : Int) (kk : T → List (List T) → Option β) :
    uTs P15 [.i x0, .i x1, .i x2, .i x3, .i x4, .l x5, .i x6, .i x7, .b x8, .b x9, .b xa, .b xb, .b xc, .b xd, .b xe, .b xf, .l xg, .i xh, .i xi] (fun a _ => bodyK (mkK Tryz.prog A B [(57, M57_0 f57_0)] [(4, ML63_4 l63_4_0), (13, ML63_13 l63_13_0)] (Hn 63).pt []) Tryz.f63 a kk) = G63_0 A B f57_0 l63_4_0 l63_13_0 x0 x1 x2 x3 x4 x5 x6 x7 x8 x9 xa xb xc xd xe xf xg xh xi (fun xj => kk (tB xj) []) := by kernel_rfl
theorem o63_0 {β : Type} (N : Nat) : Snd (β := β) Tryz.prog Hn 63 (M63_0 (F63_0 re rk N)) := by
  intro a h kk r ha hr
  unfold M63_0 at ha
  split at ha
  · rename_i hs
    cases ha
    have hk := via_pat hs ((e63_0 re rk (F57_0 re rk N) (L63_4_0 re rk N N) (L63_13_0 re rk N N) _ _ _ _ _ _ _ _ _ _ _ _ _ _ _ _ _ _ _ kk).trans hr)
    exact fn_ok (f := 63) (fn := Tryz.f63) (H := Hn) (by kernel_rfl) (show SndAll Tryz.prog Hn [(57, M57_0 (F57_0 re rk N))] from ⟨o57_0 N, trivial⟩) (spots := [.lp X63_4, .lp X63_13]) (by kernel_rfl) ⟨cut_lp (id := 4) i63_4 (ol63_4 N N) (fun s kk => by kernel_rfl), cut_lp (id := 13) i63_13 (ol63_13 N N) (fun s kk => by kernel_rfl), trivial⟩ hk
  · cases ha
def G99_0 {β : Type} (A : Pr) (B : Pk) (x0 x1 x2 x3 x4 : Int) (x5 : List R) (x6 x7 : Int) (x8 x9 xa xb xc xd xe xf : Bool) (xg : List R) (xh xi xj : Int) (k0 : Int → Int → Option β) : Option β :=
    match (A.cm .lss xj 0) with
    | true => (k0 0 0)
    | false => (match (A.cm .gtr xj x1) with
      | true => (k0 0 0)
      | false => (match (A.cm .eql (A.on (A.len x5)) 0) with
        | true => (k0 12 12)
        | false => (match (A.cm .geq xj (A.on (A.len x5))) with
          | true => (k0 0 0)
          | false => (match (A.ix xj (A.len x5)) with
            | some xk => (match (B.okE [(Sh.i .i64), (Sh.i .i64)] true x5 xk) with
              | true => (k0 (B.ci x5 xk 0) (B.ci x5 xk 1))
              | false => none)
            | none => none))))
def F99_0 {β : Type} (A : Pr) (B : Pk) (N : Nat) (x0 x1 x2 x3 x4 : Int) (x5 : List R) (x6 x7 : Int) (x8 x9 xa xb xc xd xe xf : Bool) (xg : List R) (xh xi xj : Int) (k0 : Int → Int → Option β) : Option β :=
  G99_0 A B  x0 x1 x2 x3 x4 x5 x6 x7 x8 x9 xa xb xc xd xe xf xg xh xi xj k0
def P22 : List PT := [(.r (.a [(.i .i64), (.i .i64), (.i .i64), (.i .i64), (.i .i64), (.ro 2), (.i .i64), (.i .i64), .b, .b, .b, .b, .b, .b, .b, .b, (.ro 1), (.i .i64), (.i .i64)])), pI]
def M99_0 {β : Type} (f99_0 : Int → Int → Int → Int → Int → List R → Int → Int → Bool → Bool → Bool → Bool → Bool → Bool → Bool → Bool → List R → Int → Int → Int → (Int → Int → Option β) → Option β) (a : List T) : Option ((T → List (List T) → Option β) → Option β) :=
  match gTs P22 a [] with
  | some [.i x0, .i x1, .i x2, .i x3, .i x4, .l x5, .i x6, .i x7, .b x8, .b x9, .b xa, .b xb, .b xc, .b xd, .b xe, .b xf, .l xg, .i xh, .i xi, .i xj] => some fun kk => f99_0 x0 x1 x2 x3 x4 x5 x6 x7 x8 x9 xa xb xc xd xe xf xg xh xi xj (fun xk xl => kk (T.r (R.a [(R.i .i64 xk), (R.i .i64 xl)])) [])
  | _ => none
theorem e99_0 {β : Type} (A : Pr) (B : Pk) (x0 x1 x2 x3 x4 : Int) (x5 : List R) (x6 x7 : Int) (x8 x9 xa xb xc xd xe xf : Bool) (xg : List R) (xh xi xj : Int) (kk : T → List (List T) → Option β) :
    uTs P22 [.i x0, .i x1, .i x2, .i x3, .i x4, .l x5, .i x6, .i x7, .b x8, .b x9, .b xa, .b xb, .b xc, .b xd, .b xe, .b xf, .l xg, .i xh, .i xi, .i xj] (fun a _ => bodyK (mkK Tryz.prog A B [] [] (Hn 99).pt []) Tryz.f99 a kk) = G99_0 A B  x0 x1 x2 x3 x4 x5 x6 x7 x8 x9 xa xb xc xd xe xf xg xh xi xj (fun xk xl => kk (T.r (R.a [(R.i .i64 xk), (R.i .i64 xl)])) []) := by kernel_rfl
theorem o99_0 {β : Type} (N : Nat) : Snd (β := β) Tryz.prog Hn 99 (M99_0 (F99_0 re rk N)) := by
  intro a h kk r ha hr
  unfold M99_0 at ha
  split at ha
  · rename_i hs
    cases ha
    have hk := via_pat hs ((e99_0 re rk  _ _ _ _ _ _ _ _ _ _ _ _ _ _ _ _ _ _ _ _ kk).trans hr)
    exact fn_ok (f := 99) (fn := Tryz.f99) (H := Hn) (by kernel_rfl) (show SndAll Tryz.prog Hn [] from trivial) (spots := []) (by kernel_rfl) trivial hk
  · cases ha
def G140_0 {β : Type} (A : Pr) (B : Pk) (x0 : Int) (k0 : Int → Option β) : Option β :=
    match (A.cm .lss x0 0) with
    | true => (k0 0)
    | false => (match (A.cm .gtr x0 5) with
      | true => (k0 0)
      | false => (k0 (A.ar .add .i64 (A.ar .mul .i64 3 x0) 1)))
def F140_0 {β : Type} (A : Pr) (B : Pk) (N : Nat) (x0 : Int) (k0 : Int → Option β) : Option β :=
  G140_0 A B  x0 k0
def P23 : List PT := [pI]
def M140_0 {β : Type} (f140_0 : Int → (Int → Option β) → Option β) (a : List T) : Option ((T → List (List T) → Option β) → Option β) :=
  match gTs P23 a [] with
  | some [.i x0] => some fun kk => f140_0 x0 (fun x1 => kk (tI x1) [])
  | _ => none
theorem e140_0 {β : Type} (A : Pr) (B : Pk) (x0 : Int) (kk : T → List (List T) → Option β) :
    uTs P23 [.i x0] (fun a _ => bodyK (mkK Tryz.prog A B [] [] (Hn 140).pt []) Tryz.f140 a kk) = G140_0 A B  x0 (fun x1 => kk (tI x1) []) := by kernel_rfl
theorem o140_0 {β : Type} (N : Nat) : Snd (β := β) Tryz.prog Hn 140 (M140_0 (F140_0 re rk N)) := by
  intro a h kk r ha hr
  unfold M140_0 at ha
  split at ha
  · rename_i hs
    cases ha
    have hk := via_pat hs ((e140_0 re rk  _ kk).trans hr)
    exact fn_ok (f := 140) (fn := Tryz.f140) (H := Hn) (by kernel_rfl) (show SndAll Tryz.prog Hn [] from trivial) (spots := []) (by kernel_rfl) trivial hk
  · cases ha
noncomputable def X101_5 : Code := atF Tryz.f101 [true, true, true, false, true, false, false]
theorem i101_5 : firstReg X101_5 = 5 := by kernel_rfl
def GL101_5_0 {β : Type} (A : Pr) (B : Pk) (l101_5_0 : (Q5 β) → Q6 β) (k0 : Q5 β) (x0 x1 x2 x3 x4 x5 x6 x7 x8 x9 xa : Int) : Option β :=
    match (A.cm .lss xa x0) with
    | true => (l101_5_0 k0 x0 x1 x2 x3 x4 x5 x6 x7 x8 (A.ar .mul .i64 2 x9) (A.ar .add .i64 xa 1))
    | false => (k0 x0 x1 x2 x3 x4 x5 x6 x7 x8 x9)
def L101_5_0 {β : Type} (A : Pr) (B : Pk) (N : Nat) : Nat → (Q5 β) → Q6 β
  | 0, _, _, _, _, _, _, _, _, _, _, _, _ => none
  | n + 1, k0, x0, x1, x2, x3, x4, x5, x6, x7, x8, x9, xa =>
    GL101_5_0 A B (L101_5_0 A B N n) k0 x0 x1 x2 x3 x4 x5 x6 x7 x8 x9 xa
def P24 : List PT := [.us 1, pI, .us 1, (.bx [pI, pI, pI, pI]), .us 2, (.bx [pI, pI, pI, pI]), pI, .us 26]
def S24 (x0 x1 x2 x3 x4 x5 x6 x7 x8 x9 : Int) : List T := (T.u :: (tI x0) :: T.u :: (T.bx [(tI x1), (tI x2), (tI x3), (tI x4)]) :: T.u :: T.u :: (T.bx [(tI x5), (tI x6), (tI x7), (tI x8)]) :: (tI x9) :: T.u :: T.u :: T.u :: T.u :: T.u :: T.u :: T.u :: T.u :: T.u :: T.u :: T.u :: T.u :: T.u :: T.u :: T.u :: T.u :: T.u :: T.u :: T.u :: T.u :: T.u :: T.u :: T.u :: T.u :: T.u :: T.u :: [])
def P25 : List PT := [.us 1, pI, .us 1, (.bx [pI, pI, pI, pI]), .us 2, (.bx [pI, pI, pI, pI]), pI, pI, .us 25]
noncomputable def ML101_5 {β : Type} (l101_5_0 : (Q5 β) → Q6 β) (s : List T) : Option ((Ex → List T → Option β) → Option β) :=
  match gTs P25 (clean ((Hn 101).lp 5).1 s) [] with
  | some [.i x0, .i x1, .i x2, .i x3, .i x4, .i x5, .i x6, .i x7, .i x8, .i x9, .i xa] => some fun kk => l101_5_0 (fun xb xc xd xe xf xg xh xi xj xk => kk (Ex.ex 0) (S24 xb xc xd xe xf xg xh xi xj xk)) x0 x1 x2 x3 x4 x5 x6 x7 x8 x9 xa
  | _ => none
theorem e101_5_0 {β : Type} (A : Pr) (B : Pk) (l101_5_0 : (Q5 β) → Q6 β) (x0 x1 x2 x3 x4 x5 x6 x7 x8 x9 xa : Int) (kk : Ex → List T → Option β) :
    uTs P25 [.i x0, .i x1, .i x2, .i x3, .i x4, .i x5, .i x6, .i x7, .i x8, .i x9, .i xa] (fun s _ => evK (mkK Tryz.prog A B [] [] (Hn 101).pt []) X101_5 s (fun e s' => match e with
      | .nm => (match ML101_5 l101_5_0 s' with | some h => h kk | none => none)
      | .ex m => kk (.ex m) (clean ((Hn 101).lp (firstReg X101_5)).2 s')
      | .rt => kk .rt (clean ((Hn 101).lp (firstReg X101_5)).2 s'))) = GL101_5_0 A B l101_5_0 (fun xb xc xd xe xf xg xh xi xj xk => kk (Ex.ex 0) (S24 xb xc xd xe xf xg xh xi xj xk)) x0 x1 x2 x3 x4 x5 x6 x7 x8 x9 xa := by kernel_rfl
theorem ol101_5 {β : Type} (N : Nat) : ∀ n, SndL (β := β) Tryz.prog Hn (Hn 101) X101_5 (ML101_5 (L101_5_0 re rk N n))
  | 0 => by
    intro s h kk r ha hr
    unfold ML101_5 at ha
    split at ha
    · cases ha; cases hr
    · cases ha
  | n + 1 => by
    have ih := ol101_5 (β := β) N n
    intro s h kk r ha hr
    unfold ML101_5 at ha
    split at ha
    · rename_i hs
      cases ha
      have hk := via_pat hs ((e101_5_0 re rk (L101_5_0 re rk N n) _ _ _ _ _ _ _ _ _ _ _ kk).trans hr)
      exact round_ok (show SndAll Tryz.prog Hn [] from trivial) (spots := []) (by kernel_rfl) trivial ih (hd := clean ((Hn 101).lp 5).1 s) (by rw [i101_5]) hk
    · cases ha
def G101_0 {β : Type} (A : Pr) (B : Pk) (f140_0 : Int → (Int → Option β) → Option β) (f58_0 : Int → Int → Int → Int → Int → Int → (Int → Int → Int → Int → Option β) → Option β) (l101_5_0 : (Q5 β) → Q6 β) (x0 x1 x2 x3 x4 x5 : Int) (k0 : Int → Int → Int → Int → Option β) : Option β :=
    f140_0 x4 (fun x6 =>
    match (A.cm .eql x6 0) with
      | true => (k0 0 0 0 0)
      | false => (match (A.cm .lss x5 0) with
        | true => (k0 0 0 0 0)
        | false => (match (A.cm .gtr x5 x4) with
          | true => (k0 0 0 0 0)
          | false => (l101_5_0 (fun x7 x8 x9 xa xb xc xd xe xf xg =>
            f58_0 x8 x9 xa xb xg xg (fun xh xi xj xk =>
              k0 xh xi xj xk)) x4 x0 x1 x2 x3 0 0 0 0 1 x5))))
def F101_0 {β : Type} (A : Pr) (B : Pk) (N : Nat) (x0 x1 x2 x3 x4 x5 : Int) (k0 : Int → Int → Int → Int → Option β) : Option β :=
  G101_0 A B (F140_0 A B N) (F58_0 A B N) (L101_5_0 A B N N) x0 x1 x2 x3 x4 x5 k0
def M101_0 {β : Type} (f101_0 : Int → Int → Int → Int → Int → Int → (Int → Int → Int → Int → Option β) → Option β) (a : List T) : Option ((T → List (List T) → Option β) → Option β) :=
  match gTs P3 a [] with
  | some [.i x0, .i x1, .i x2, .i x3, .i x4, .i x5] => some fun kk => f101_0 x0 x1 x2 x3 x4 x5 (fun x6 x7 x8 x9 => kk (T.r (R.a [(R.i .i64 x6), (R.i .i64 x7), (R.i .i64 x8), (R.i .i64 x9)])) [])
  | _ => none
theorem e101_0 {β : Type} (A : Pr) (B : Pk) (f140_0 : Int → (Int → Option β) → Option β) (f58_0 : Int → Int → Int → Int → Int → Int → (Int → Int → Int → Int → Option β) → Option β) (l101_5_0 : (Q5 β) → Q6 β) (x0 x1 x2 x3 x4 x5 : Int) (kk : T → List (List T) → Option β) :
    uTs P3 [.i x0, .i x1, .i x2, .i x3, .i x4, .i x5] (fun a _ => bodyK (mkK Tryz.prog A B [(140, M140_0 f140_0), (58, M58_0 f58_0)] [(5, ML101_5 l101_5_0)] (Hn 101).pt []) Tryz.f101 a kk) = G101_0 A B f140_0 f58_0 l101_5_0 x0 x1 x2 x3 x4 x5 (fun x6 x7 x8 x9 => kk (T.r (R.a [(R.i .i64 x6), (R.i .i64 x7), (R.i .i64 x8), (R.i .i64 x9)])) []) := by kernel_rfl
theorem o101_0 {β : Type} (N : Nat) : Snd (β := β) Tryz.prog Hn 101 (M101_0 (F101_0 re rk N)) := by
  intro a h kk r ha hr
  unfold M101_0 at ha
  split at ha
  · rename_i hs
    cases ha
    have hk := via_pat hs ((e101_0 re rk (F140_0 re rk N) (F58_0 re rk N) (L101_5_0 re rk N N) _ _ _ _ _ _ kk).trans hr)
    exact fn_ok (f := 101) (fn := Tryz.f101) (H := Hn) (by kernel_rfl) (show SndAll Tryz.prog Hn [(140, M140_0 (F140_0 re rk N)), (58, M58_0 (F58_0 re rk N))] from ⟨o140_0 N, o58_0 N, trivial⟩) (spots := [.lp X101_5]) (by kernel_rfl) ⟨cut_lp (id := 5) i101_5 (ol101_5 N N) (fun s kk => by kernel_rfl), trivial⟩ hk
  · cases ha
def G100_0 {β : Type} (A : Pr) (B : Pk) (f56_0 : Int → Int → Int → Int → (Bool → Option β) → Option β) (f96_0 : Int → Int → (Int → Option β) → Option β) (f97_0 : Int → Int → (Int → Option β) → Option β) (x0 x1 x2 x3 x4 x5 : Int) (k0 : Int → Option β) : Option β :=
    f56_0 x0 x1 x2 x3 (fun x6 =>
    match x6 with
      | true => (k0 0)
      | false => (match (A.sh x4) with
        | true => (f96_0 x2 (A.ar .shl .i64 1 x4) (fun x7 =>
          match (A.sh x4) with
            | true => (f97_0 x0 (A.ar .shl .i64 1 x4) (fun x8 =>
              match (A.sh x5) with
                | true => (f96_0 x3 (A.ar .shl .i64 1 x5) (fun x9 =>
                  match (A.sh x5) with
                    | true => (f97_0 x1 (A.ar .shl .i64 1 x5) (fun xa =>
                      k0 (A.ar .mul .i64 (A.ar .sub .i64 x7 x8) (A.ar .sub .i64 x9 xa))))
                    | false => none))
                | false => none))
            | false => none))
        | false => none))
def F100_0 {β : Type} (A : Pr) (B : Pk) (N : Nat) (x0 x1 x2 x3 x4 x5 : Int) (k0 : Int → Option β) : Option β :=
  G100_0 A B (F56_0 A B N) (F96_0 A B N) (F97_0 A B N) x0 x1 x2 x3 x4 x5 k0
def M100_0 {β : Type} (f100_0 : Int → Int → Int → Int → Int → Int → (Int → Option β) → Option β) (a : List T) : Option ((T → List (List T) → Option β) → Option β) :=
  match gTs P3 a [] with
  | some [.i x0, .i x1, .i x2, .i x3, .i x4, .i x5] => some fun kk => f100_0 x0 x1 x2 x3 x4 x5 (fun x6 => kk (tI x6) [])
  | _ => none
theorem e100_0 {β : Type} (A : Pr) (B : Pk) (f56_0 : Int → Int → Int → Int → (Bool → Option β) → Option β) (f96_0 : Int → Int → (Int → Option β) → Option β) (f97_0 : Int → Int → (Int → Option β) → Option β) (x0 x1 x2 x3 x4 x5 : Int) (kk : T → List (List T) → Option β) :
    uTs P3 [.i x0, .i x1, .i x2, .i x3, .i x4, .i x5] (fun a _ => bodyK (mkK Tryz.prog A B [(56, M56_0 f56_0), (96, M96_0 f96_0), (97, M97_0 f97_0)] [] (Hn 100).pt []) Tryz.f100 a kk) = G100_0 A B f56_0 f96_0 f97_0 x0 x1 x2 x3 x4 x5 (fun x6 => kk (tI x6) []) := by kernel_rfl
theorem o100_0 {β : Type} (N : Nat) : Snd (β := β) Tryz.prog Hn 100 (M100_0 (F100_0 re rk N)) := by
  intro a h kk r ha hr
  unfold M100_0 at ha
  split at ha
  · rename_i hs
    cases ha
    have hk := via_pat hs ((e100_0 re rk (F56_0 re rk N) (F96_0 re rk N) (F97_0 re rk N) _ _ _ _ _ _ kk).trans hr)
    exact fn_ok (f := 100) (fn := Tryz.f100) (H := Hn) (by kernel_rfl) (show SndAll Tryz.prog Hn [(56, M56_0 (F56_0 re rk N)), (96, M96_0 (F96_0 re rk N)), (97, M97_0 (F97_0 re rk N))] from ⟨o56_0 N, o96_0 N, o97_0 N, trivial⟩) (spots := []) (by kernel_rfl) trivial hk
  · cases ha
noncomputable def X64_7 : Code := atF Tryz.f64 [true, true, false, true, false, false, true, false, false, true, true, false, false]
theorem i64_7 : firstReg X64_7 = 7 := by kernel_rfl
def GL64_7_0 {β : Type} (A : Pr) (B : Pk) (f99_0 : Int → Int → Int → Int → Int → List R → Int → Int → Bool → Bool → Bool → Bool → Bool → Bool → Bool → Bool → List R → Int → Int → Int → (Int → Int → Option β) → Option β) (f101_0 : Int → Int → Int → Int → Int → Int → (Int → Int → Int → Int → Option β) → Option β) (f100_0 : Int → Int → Int → Int → Int → Int → (Int → Option β) → Option β) (l64_7_0 : (Q7 β) → Q8 β) (k0 : Q7 β) (x0 x1 x2 x3 x4 x5 : Int) (x6 : List R) (x7 x8 x9 xa xb : Int) (xc : List R) (xd xe : Int) (xf xg xh xi xj xk xl xm : Bool) (xn : List R) (xo xp xq xr xs xt xu xv xw xx xy xz x10 : Int) : Option β :=
    match (A.cm .leq x10 x8) with
    | true => (f99_0 x7 x8 x9 xa xb xc xd xe xf xg xh xi xj xk xl xm xn xo xp x10 (fun x11 x12 =>
      f101_0 xw xx xy xz x8 x10 (fun x13 x14 x15 x16 =>
        f100_0 x13 x14 x15 x16 x11 x12 (fun x17 =>
          l64_7_0 k0 x0 x1 x2 x3 x4 x5 x6 x7 x8 x9 xa xb xc xd xe xf xg xh xi xj xk xl xm xn xo xp xq xr xs xt (A.ar .add .i64 xu x17) xv xw xx xy xz (A.ar .add .i64 x10 1)))))
    | false => (k0 x0 x1 x2 x3 x4 x5 x6 x7 x8 x9 xa xb xc xd xe xf xg xh xi xj xk xl xm xn xo xp xq xr xs xt xu xv)
def L64_7_0 {β : Type} (A : Pr) (B : Pk) (N : Nat) : Nat → (Q7 β) → Q8 β
  | 0, _, _, _, _, _, _, _, _, _, _, _, _, _, _, _, _, _, _, _, _, _, _, _, _, _, _, _, _, _, _, _, _, _, _, _, _, _, _ => none
  | n + 1, k0, x0, x1, x2, x3, x4, x5, x6, x7, x8, x9, xa, xb, xc, xd, xe, xf, xg, xh, xi, xj, xk, xl, xm, xn, xo, xp, xq, xr, xs, xt, xu, xv, xw, xx, xy, xz, x10 =>
    GL64_7_0 A B (F99_0 A B N) (F101_0 A B N) (F100_0 A B N) (L64_7_0 A B N n) k0 x0 x1 x2 x3 x4 x5 x6 x7 x8 x9 xa xb xc xd xe xf xg xh xi xj xk xl xm xn xo xp xq xr xs xt xu xv xw xx xy xz x10
def P26 : List PT := [.us 3, (.bx [pI, pI, pI, pI, pI, pI, (.r (.ro 4))]), (.bx [pI, pI, pI, pI, pI, (.r (.ro 2)), pI, pI, pB, pB, pB, pB, pB, pB, pB, pB, (.r (.ro 1)), pI, pI]), (.bx [pI, pI, pI, pI]), .us 1, pI, pI, .us 49]
def S26 (x0 x1 x2 x3 x4 x5 : Int) (x6 : List R) (x7 x8 x9 xa xb : Int) (xc : List R) (xd xe : Int) (xf xg xh xi xj xk xl xm : Bool) (xn : List R) (xo xp xq xr xs xt xu xv : Int) : List T := (T.u :: T.u :: T.u :: (T.bx [(tI x0), (tI x1), (tI x2), (tI x3), (tI x4), (tI x5), (T.r (R.ro 4 x6))]) :: (T.bx [(tI x7), (tI x8), (tI x9), (tI xa), (tI xb), (T.r (R.ro 2 xc)), (tI xd), (tI xe), (tB xf), (tB xg), (tB xh), (tB xi), (tB xj), (tB xk), (tB xl), (tB xm), (T.r (R.ro 1 xn)), (tI xo), (tI xp)]) :: (T.bx [(tI xq), (tI xr), (tI xs), (tI xt)]) :: T.u :: (tI xu) :: (tI xv) :: T.u :: T.u :: T.u :: T.u :: T.u :: T.u :: T.u :: T.u :: T.u :: T.u :: T.u :: T.u :: T.u :: T.u :: T.u :: T.u :: T.u :: T.u :: T.u :: T.u :: T.u :: T.u :: T.u :: T.u :: T.u :: T.u :: T.u :: T.u :: T.u :: T.u :: T.u :: T.u :: T.u :: T.u :: T.u :: T.u :: T.u :: T.u :: T.u :: T.u :: T.u :: T.u :: T.u :: T.u :: T.u :: T.u :: T.u :: T.u :: T.u :: [])
def P27 : List PT := [.us 3, (.bx [pI, pI, pI, pI, pI, pI, (.r (.ro 4))]), (.bx [pI, pI, pI, pI, pI, (.r (.ro 2)), pI, pI, pB, pB, pB, pB, pB, pB, pB, pB, (.r (.ro 1)), pI, pI]), (.bx [pI, pI, pI, pI]), .us 1, pI, pI, (.bx [pI, pI, pI, pI]), pI, .us 47]
noncomputable def ML64_7 {β : Type} (l64_7_0 : (Q7 β) → Q8 β) (s : List T) : Option ((Ex → List T → Option β) → Option β) :=
  match gTs P27 (clean ((Hn 64).lp 7).1 s) [] with
  | some (.i x0 :: .i x1 :: .i x2 :: .i x3 :: .i x4 :: .i x5 :: .l x6 :: .i x7 :: .i x8 :: .i x9 :: .i xa :: .i xb :: .l xc :: .i xd :: .i xe :: .b xf :: .b xg :: .b xh :: .b xi :: .b xj :: .b xk :: .b xl :: .b xm :: .l xn :: .i xo :: .i xp :: .i xq :: .i xr :: .i xs :: .i xt :: .i xu :: .i xv :: .i xw :: .i xx :: .i xy :: .i xz :: .i x10 :: []) => some fun kk => l64_7_0 (fun x11 x12 x13 x14 x15 x16 x17 x18 x19 x1a x1b x1c x1d x1e x1f x1g x1h x1i x1j x1k x1l x1m x1n x1o x1p x1q x1r x1s x1t x1u x1v x1w => kk (Ex.ex 2) (S26 x11 x12 x13 x14 x15 x16 x17 x18 x19 x1a x1b x1c x1d x1e x1f x1g x1h x1i x1j x1k x1l x1m x1n x1o x1p x1q x1r x1s x1t x1u x1v x1w)) x0 x1 x2 x3 x4 x5 x6 x7 x8 x9 xa xb xc xd xe xf xg xh xi xj xk xl xm xn xo xp xq xr xs xt xu xv xw xx xy xz x10
  | _ => none
theorem e64_7_0 {β : Type} (A : Pr) (B : Pk) (f99_0 : Int → Int → Int → Int → Int → List R → Int → Int → Bool → Bool → Bool → Bool → Bool → Bool → Bool → Bool → List R → Int → Int → Int → (Int → Int → Option β) → Option β) (f101_0 : Int → Int → Int → Int → Int → Int → (Int → Int → Int → Int → Option β) → Option β) (f100_0 : Int → Int → Int → Int → Int → Int → (Int → Option β) → Option β) (l64_7_0 : (Q7 β) → Q8 β) (x0 x1 x2 x3 x4 x5 : Int) (x6 : List R) (x7 x8 x9 xa xb : Int) (xc : List R) (xd xe : Int) (xf xg xh xi xj xk xl xm : Bool) (xn : List R) (xo xp xq xr xs xt xu xv xw xx xy xz x10 : Int) (kk : Ex → List T → Option β) :
    uTs P27 (.i x0 :: .i x1 :: .i x2 :: .i x3 :: .i x4 :: .i x5 :: .l x6 :: .i x7 :: .i x8 :: .i x9 :: .i xa :: .i xb :: .l xc :: .i xd :: .i xe :: .b xf :: .b xg :: .b xh :: .b xi :: .b xj :: .b xk :: .b xl :: .b xm :: .l xn :: .i xo :: .i xp :: .i xq :: .i xr :: .i xs :: .i xt :: .i xu :: .i xv :: .i xw :: .i xx :: .i xy :: .i xz :: .i x10 :: []) (fun s _ => evK (mkK Tryz.prog A B [(99, M99_0 f99_0), (101, M101_0 f101_0), (100, M100_0 f100_0)] [] (Hn 64).pt []) X64_7 s (fun e s' => match e with
      | .nm => (match ML64_7 l64_7_0 s' with | some h => h kk | none => none)
      | .ex m => kk (.ex m) (clean ((Hn 64).lp (firstReg X64_7)).2 s')
      | .rt => kk .rt (clean ((Hn 64).lp (firstReg X64_7)).2 s'))) = GL64_7_0 A B f99_0 f101_0 f100_0 l64_7_0 (fun x11 x12 x13 x14 x15 x16 x17 x18 x19 x1a x1b x1c x1d x1e x1f x1g x1h x1i x1j x1k x1l x1m x1n x1o x1p x1q x1r x1s x1t x1u x1v x1w => kk (Ex.ex 2) (S26 x11 x12 x13 x14 x15 x16 x17 x18 x19 x1a x1b x1c x1d x1e x1f x1g x1h x1i x1j x1k x1l x1m x1n x1o x1p x1q x1r x1s x1t x1u x1v x1w)) x0 x1 x2 x3 x4 x5 x6 x7 x8 x9 xa xb xc xd xe xf xg xh xi xj xk xl xm xn xo xp xq xr xs xt xu xv xw xx xy xz x10 := by kernel_rfl
theorem ol64_7 {β : Type} (N : Nat) : ∀ n, SndL (β := β) Tryz.prog Hn (Hn 64) X64_7 (ML64_7 (L64_7_0 re rk N n))
  | 0 => by
    intro s h kk r ha hr
    unfold ML64_7 at ha
    split at ha
    · cases ha; cases hr
    · cases ha
  | n + 1 => by
    have ih := ol64_7 (β := β) N n
    intro s h kk r ha hr
    unfold ML64_7 at ha
    split at ha
    · rename_i hs
      cases ha
      have hk := via_pat hs ((e64_7_0 re rk (F99_0 re rk N) (F101_0 re rk N) (F100_0 re rk N) (L64_7_0 re rk N n) _ _ _ _ _ _ _ _ _ _ _ _ _ _ _ _ _ _ _ _ _ _ _ _ _ _ _ _ _ _ _ _ _ _ _ _ _ kk).trans hr)
      exact round_ok (show SndAll Tryz.prog Hn [(99, M99_0 (F99_0 re rk N)), (101, M101_0 (F101_0 re rk N)), (100, M100_0 (F100_0 re rk N))] from ⟨o99_0 N, o101_0 N, o100_0 N, trivial⟩) (spots := []) (by kernel_rfl) trivial ih (hd := clean ((Hn 64).lp 7).1 s) (by rw [i64_7]) hk
    · cases ha
noncomputable def X64_3 : Code := atF Tryz.f64 [true, true, false, true, false, false]
theorem i64_3 : firstReg X64_3 = 3 := by kernel_rfl
def GL64_3_0 {β : Type} (A : Pr) (B : Pk) (f58_0 : Int → Int → Int → Int → Int → Int → (Int → Int → Int → Int → Option β) → Option β) (l64_7_0 : (Q7 β) → Q8 β) (l64_3_0 : (Q4 β) → Q7 β) (k0 : Q4 β) (x0 x1 x2 x3 x4 x5 : Int) (x6 : List R) (x7 x8 x9 xa xb : Int) (xc : List R) (xd xe : Int) (xf xg xh xi xj xk xl xm : Bool) (xn : List R) (xo xp xq xr xs xt xu xv : Int) : Option β :=
    match (A.cm .lss xv (A.on (A.len x6))) with
    | true => (match (A.ix xv (A.len x6)) with
      | some xw => (match (B.okE [(Sh.i .i64), Sh.b, (Sh.i .i64), (Sh.i .i64)] true x6 xw) with
        | true => (match (A.ix xv (A.len x6)) with
          | some xx => (match (B.okE [(Sh.i .i64), Sh.b, (Sh.i .i64), (Sh.i .i64)] true x6 xx) with
            | true => (f58_0 xq xr xs xt (B.ci x6 xw 2) (B.ci x6 xx 3) (fun xy xz x10 x11 =>
              l64_7_0 (fun x12 x13 x14 x15 x16 x17 x18 x19 x1a x1b x1c x1d x1e x1f x1g x1h x1i x1j x1k x1l x1m x1n x1o x1p x1q x1r x1s x1t x1u x1v x1w x1x =>
                l64_3_0 k0 x12 x13 x14 x15 x16 x17 x18 x19 x1a x1b x1c x1d x1e x1f x1g x1h x1i x1j x1k x1l x1m x1n x1o x1p x1q x1r x1s x1t x1u x1v x1w (A.ar .add .i64 x1x 1)) x0 x1 x2 x3 x4 x5 x6 x7 x8 x9 xa xb xc xd xe xf xg xh xi xj xk xl xm xn xo xp xq xr xs xt xu xv xy xz x10 x11 0))
            | false => none)
          | none => none)
        | false => none)
      | none => none)
    | false => (k0 x7 x8 x9 xa xb xc xd xe xf xg xh xi xj xk xl xm xn xo xp xu)
def L64_3_0 {β : Type} (A : Pr) (B : Pk) (N : Nat) : Nat → (Q4 β) → Q7 β
  | 0, _, _, _, _, _, _, _, _, _, _, _, _, _, _, _, _, _, _, _, _, _, _, _, _, _, _, _, _, _, _, _, _, _ => none
  | n + 1, k0, x0, x1, x2, x3, x4, x5, x6, x7, x8, x9, xa, xb, xc, xd, xe, xf, xg, xh, xi, xj, xk, xl, xm, xn, xo, xp, xq, xr, xs, xt, xu, xv =>
    GL64_3_0 A B (F58_0 A B N) (L64_7_0 A B N N) (L64_3_0 A B N n) k0 x0 x1 x2 x3 x4 x5 x6 x7 x8 x9 xa xb xc xd xe xf xg xh xi xj xk xl xm xn xo xp xq xr xs xt xu xv
def P28 : List PT := [.us 4, (.bx [pI, pI, pI, pI, pI, (.r (.ro 2)), pI, pI, pB, pB, pB, pB, pB, pB, pB, pB, (.r (.ro 1)), pI, pI]), .us 2, pI, .us 50]
def S28 (x0 x1 x2 x3 x4 : Int) (x5 : List R) (x6 x7 : Int) (x8 x9 xa xb xc xd xe xf : Bool) (xg : List R) (xh xi xj : Int) : List T := (T.u :: T.u :: T.u :: T.u :: (T.bx [(tI x0), (tI x1), (tI x2), (tI x3), (tI x4), (T.r (R.ro 2 x5)), (tI x6), (tI x7), (tB x8), (tB x9), (tB xa), (tB xb), (tB xc), (tB xd), (tB xe), (tB xf), (T.r (R.ro 1 xg)), (tI xh), (tI xi)]) :: T.u :: T.u :: (tI xj) :: T.u :: T.u :: T.u :: T.u :: T.u :: T.u :: T.u :: T.u :: T.u :: T.u :: T.u :: T.u :: T.u :: T.u :: T.u :: T.u :: T.u :: T.u :: T.u :: T.u :: T.u :: T.u :: T.u :: T.u :: T.u :: T.u :: T.u :: T.u :: T.u :: T.u :: T.u :: T.u :: T.u :: T.u :: T.u :: T.u :: T.u :: T.u :: T.u :: T.u :: T.u :: T.u :: T.u :: T.u :: T.u :: T.u :: T.u :: T.u :: T.u :: T.u :: [])
noncomputable def ML64_3 {β : Type} (l64_3_0 : (Q4 β) → Q7 β) (s : List T) : Option ((Ex → List T → Option β) → Option β) :=
  match gTs P26 (clean ((Hn 64).lp 3).1 s) [] with
  | some (.i x0 :: .i x1 :: .i x2 :: .i x3 :: .i x4 :: .i x5 :: .l x6 :: .i x7 :: .i x8 :: .i x9 :: .i xa :: .i xb :: .l xc :: .i xd :: .i xe :: .b xf :: .b xg :: .b xh :: .b xi :: .b xj :: .b xk :: .b xl :: .b xm :: .l xn :: .i xo :: .i xp :: .i xq :: .i xr :: .i xs :: .i xt :: .i xu :: .i xv :: []) => some fun kk => l64_3_0 (fun xw xx xy xz x10 x11 x12 x13 x14 x15 x16 x17 x18 x19 x1a x1b x1c x1d x1e x1f => kk (Ex.ex 0) (S28 xw xx xy xz x10 x11 x12 x13 x14 x15 x16 x17 x18 x19 x1a x1b x1c x1d x1e x1f)) x0 x1 x2 x3 x4 x5 x6 x7 x8 x9 xa xb xc xd xe xf xg xh xi xj xk xl xm xn xo xp xq xr xs xt xu xv
  | _ => none
theorem e64_3_0 {β : Type} (A : Pr) (B : Pk) (f58_0 : Int → Int → Int → Int → Int → Int → (Int → Int → Int → Int → Option β) → Option β) (l64_7_0 : (Q7 β) → Q8 β) (l64_3_0 : (Q4 β) → Q7 β) (x0 x1 x2 x3 x4 x5 : Int) (x6 : List R) (x7 x8 x9 xa xb : Int) (xc : List R) (xd xe : Int) (xf xg xh xi xj xk xl xm : Bool) (xn : List R) (xo xp xq xr xs xt xu xv : Int) (kk : Ex → List T → Option β) :
    uTs P26 (.i x0 :: .i x1 :: .i x2 :: .i x3 :: .i x4 :: .i x5 :: .l x6 :: .i x7 :: .i x8 :: .i x9 :: .i xa :: .i xb :: .l xc :: .i xd :: .i xe :: .b xf :: .b xg :: .b xh :: .b xi :: .b xj :: .b xk :: .b xl :: .b xm :: .l xn :: .i xo :: .i xp :: .i xq :: .i xr :: .i xs :: .i xt :: .i xu :: .i xv :: []) (fun s _ => evK (mkK Tryz.prog A B [(58, M58_0 f58_0)] [(7, ML64_7 l64_7_0)] (Hn 64).pt []) X64_3 s (fun e s' => match e with
      | .nm => (match ML64_3 l64_3_0 s' with | some h => h kk | none => none)
      | .ex m => kk (.ex m) (clean ((Hn 64).lp (firstReg X64_3)).2 s')
      | .rt => kk .rt (clean ((Hn 64).lp (firstReg X64_3)).2 s'))) = GL64_3_0 A B f58_0 l64_7_0 l64_3_0 (fun xw xx xy xz x10 x11 x12 x13 x14 x15 x16 x17 x18 x19 x1a x1b x1c x1d x1e x1f => kk (Ex.ex 0) (S28 xw xx xy xz x10 x11 x12 x13 x14 x15 x16 x17 x18 x19 x1a x1b x1c x1d x1e x1f)) x0 x1 x2 x3 x4 x5 x6 x7 x8 x9 xa xb xc xd xe xf xg xh xi xj xk xl xm xn xo xp xq xr xs xt xu xv := by kernel_rfl
theorem ol64_3 {β : Type} (N : Nat) : ∀ n, SndL (β := β) Tryz.prog Hn (Hn 64) X64_3 (ML64_3 (L64_3_0 re rk N n))
  | 0 => by
    intro s h kk r ha hr
    unfold ML64_3 at ha
    split at ha
    · cases ha; cases hr
    · cases ha
  | n + 1 => by
    have ih := ol64_3 (β := β) N n
    intro s h kk r ha hr
    unfold ML64_3 at ha
    split at ha
    · rename_i hs
      cases ha
      have hk := via_pat hs ((e64_3_0 re rk (F58_0 re rk N) (L64_7_0 re rk N N) (L64_3_0 re rk N n) _ _ _ _ _ _ _ _ _ _ _ _ _ _ _ _ _ _ _ _ _ _ _ _ _ _ _ _ _ _ _ _ kk).trans hr)
      exact round_ok (show SndAll Tryz.prog Hn [(58, M58_0 (F58_0 re rk N))] from ⟨o58_0 N, trivial⟩) (spots := [.lp X64_7]) (by kernel_rfl) ⟨cut_lp (id := 7) i64_7 (ol64_7 N N) (fun s kk => by kernel_rfl), trivial⟩ ih (hd := clean ((Hn 64).lp 3).1 s) (by rw [i64_3]) hk
    · cases ha
def G64_0 {β : Type} (A : Pr) (B : Pk) (l64_3_0 : (Q4 β) → Q7 β) (x0 x1 x2 x3 x4 x5 : Int) (x6 : List R) (x7 x8 x9 xa xb : Int) (xc : List R) (xd xe : Int) (xf xg xh xi xj xk xl xm : Bool) (xn : List R) (xo xp xq xr xs xt : Int) (k0 : Int → Option β) : Option β :=
    l64_3_0 (fun xu xv xw xx xy xz x10 x11 x12 x13 x14 x15 x16 x17 x18 x19 x1a x1b x1c x1d =>
    k0 (A.ar .mul .i64 x1d x11)) x0 x1 x2 x3 x4 x5 x6 x7 x8 x9 xa xb xc xd xe xf xg xh xi xj xk xl xm xn xo xp xq xr xs xt 0 0
def F64_0 {β : Type} (A : Pr) (B : Pk) (N : Nat) (x0 x1 x2 x3 x4 x5 : Int) (x6 : List R) (x7 x8 x9 xa xb : Int) (xc : List R) (xd xe : Int) (xf xg xh xi xj xk xl xm : Bool) (xn : List R) (xo xp xq xr xs xt : Int) (k0 : Int → Option β) : Option β :=
  G64_0 A B (L64_3_0 A B N N) x0 x1 x2 x3 x4 x5 x6 x7 x8 x9 xa xb xc xd xe xf xg xh xi xj xk xl xm xn xo xp xq xr xs xt k0
def P29 : List PT := [(.r (.a [(.i .i64), (.i .i64), (.i .i64), (.i .i64), (.i .i64), (.i .i64), (.ro 4)])), (.r (.a [(.i .i64), (.i .i64), (.i .i64), (.i .i64), (.i .i64), (.ro 2), (.i .i64), (.i .i64), .b, .b, .b, .b, .b, .b, .b, .b, (.ro 1), (.i .i64), (.i .i64)])), (.r (.a [(.i .i64), (.i .i64), (.i .i64), (.i .i64)]))]
def M64_0 {β : Type} (f64_0 : Int → Int → Int → Int → Int → Int → List R → Int → Int → Int → Int → Int → List R → Int → Int → Bool → Bool → Bool → Bool → Bool → Bool → Bool → Bool → List R → Int → Int → Int → Int → Int → Int → (Int → Option β) → Option β) (a : List T) : Option ((T → List (List T) → Option β) → Option β) :=
  match gTs P29 a [] with
  | some (.i x0 :: .i x1 :: .i x2 :: .i x3 :: .i x4 :: .i x5 :: .l x6 :: .i x7 :: .i x8 :: .i x9 :: .i xa :: .i xb :: .l xc :: .i xd :: .i xe :: .b xf :: .b xg :: .b xh :: .b xi :: .b xj :: .b xk :: .b xl :: .b xm :: .l xn :: .i xo :: .i xp :: .i xq :: .i xr :: .i xs :: .i xt :: []) => some fun kk => f64_0 x0 x1 x2 x3 x4 x5 x6 x7 x8 x9 xa xb xc xd xe xf xg xh xi xj xk xl xm xn xo xp xq xr xs xt (fun xu => kk (tI xu) [])
  | _ => none
theorem e64_0 {β : Type} (A : Pr) (B : Pk) (l64_3_0 : (Q4 β) → Q7 β) (x0 x1 x2 x3 x4 x5 : Int) (x6 : List R) (x7 x8 x9 xa xb : Int) (xc : List R) (xd xe : Int) (xf xg xh xi xj xk xl xm : Bool) (xn : List R) (xo xp xq xr xs xt : Int) (kk : T → List (List T) → Option β) :
    uTs P29 (.i x0 :: .i x1 :: .i x2 :: .i x3 :: .i x4 :: .i x5 :: .l x6 :: .i x7 :: .i x8 :: .i x9 :: .i xa :: .i xb :: .l xc :: .i xd :: .i xe :: .b xf :: .b xg :: .b xh :: .b xi :: .b xj :: .b xk :: .b xl :: .b xm :: .l xn :: .i xo :: .i xp :: .i xq :: .i xr :: .i xs :: .i xt :: []) (fun a _ => bodyK (mkK Tryz.prog A B [] [(3, ML64_3 l64_3_0)] (Hn 64).pt []) Tryz.f64 a kk) = G64_0 A B l64_3_0 x0 x1 x2 x3 x4 x5 x6 x7 x8 x9 xa xb xc xd xe xf xg xh xi xj xk xl xm xn xo xp xq xr xs xt (fun xu => kk (tI xu) []) := by kernel_rfl
theorem o64_0 {β : Type} (N : Nat) : Snd (β := β) Tryz.prog Hn 64 (M64_0 (F64_0 re rk N)) := by
  intro a h kk r ha hr
  unfold M64_0 at ha
  split at ha
  · rename_i hs
    cases ha
    have hk := via_pat hs ((e64_0 re rk (L64_3_0 re rk N N) _ _ _ _ _ _ _ _ _ _ _ _ _ _ _ _ _ _ _ _ _ _ _ _ _ _ _ _ _ _ kk).trans hr)
    exact fn_ok (f := 64) (fn := Tryz.f64) (H := Hn) (by kernel_rfl) (show SndAll Tryz.prog Hn [] from trivial) (spots := [.lp X64_3]) (by kernel_rfl) ⟨cut_lp (id := 3) i64_3 (ol64_3 N N) (fun s kk => by kernel_rfl), trivial⟩ hk
  · cases ha
def G141_0 {β : Type} (A : Pr) (B : Pk) (f140_0 : Int → (Int → Option β) → Option β) (x0 x1 : Int) (k0 : Int → Int → Bool → Option β) : Option β :=
    match (A.cm .lss x0 0) with
    | true => (k0 0 0 false)
    | false => (f140_0 x1 (fun x2 =>
      match (A.cm .geq x0 x2) with
        | true => (k0 0 0 false)
        | false => (match (A.cm .eql x0 0) with
          | true => (k0 x1 0 true)
          | false => (match (A.nz 3) with
            | true => none
            | false => (k0 (A.ar .add .i64 (A.ar .sub .i64 x1 (A.ar .quo .i64 (A.ar .add .i64 x0 2) 3)) 1) (A.ar .add .i64 (A.ar .sub .i64 x0 (A.ar .mul .i64 3 (A.ar .quo .i64 (A.ar .add .i64 x0 2) 3))) 3) true)))))
def F141_0 {β : Type} (A : Pr) (B : Pk) (N : Nat) (x0 x1 : Int) (k0 : Int → Int → Bool → Option β) : Option β :=
  G141_0 A B (F140_0 A B N) x0 x1 k0
def M141_0 {β : Type} (f141_0 : Int → Int → (Int → Int → Bool → Option β) → Option β) (a : List T) : Option ((T → List (List T) → Option β) → Option β) :=
  match gTs P2 a [] with
  | some [.i x0, .i x1] => some fun kk => f141_0 x0 x1 (fun x2 x3 x4 => kk (T.tp true [(tI x2), (tI x3), (tB x4)]) [])
  | _ => none
theorem e141_0 {β : Type} (A : Pr) (B : Pk) (f140_0 : Int → (Int → Option β) → Option β) (x0 x1 : Int) (kk : T → List (List T) → Option β) :
    uTs P2 [.i x0, .i x1] (fun a _ => bodyK (mkK Tryz.prog A B [(140, M140_0 f140_0)] [] (Hn 141).pt []) Tryz.f141 a kk) = G141_0 A B f140_0 x0 x1 (fun x2 x3 x4 => kk (T.tp true [(tI x2), (tI x3), (tB x4)]) []) := by kernel_rfl
theorem o141_0 {β : Type} (N : Nat) : Snd (β := β) Tryz.prog Hn 141 (M141_0 (F141_0 re rk N)) := by
  intro a h kk r ha hr
  unfold M141_0 at ha
  split at ha
  · rename_i hs
    cases ha
    have hk := via_pat hs ((e141_0 re rk (F140_0 re rk N) _ _ kk).trans hr)
    exact fn_ok (f := 141) (fn := Tryz.f141) (H := Hn) (by kernel_rfl) (show SndAll Tryz.prog Hn [(140, M140_0 (F140_0 re rk N))] from ⟨o140_0 N, trivial⟩) (spots := []) (by kernel_rfl) trivial hk
  · cases ha
def G170_0 {β : Type} (A : Pr) (B : Pk) (x0 : Int) (x1 : Bool) (k0 : Int → Option β) : Option β :=
    match x1 with
    | true => (match (A.nz 2) with
      | true => none
      | false => (k0 (A.ar .quo .i64 x0 2)))
    | false => (match (A.nz 2) with
      | true => none
      | false => (k0 (A.ar .quo .i64 (A.ar .add .i64 x0 1) 2)))
def F170_0 {β : Type} (A : Pr) (B : Pk) (N : Nat) (x0 : Int) (x1 : Bool) (k0 : Int → Option β) : Option β :=
  G170_0 A B  x0 x1 k0
def P30 : List PT := [pI, pB]
def M170_0 {β : Type} (f170_0 : Int → Bool → (Int → Option β) → Option β) (a : List T) : Option ((T → List (List T) → Option β) → Option β) :=
  match gTs P30 a [] with
  | some [.i x0, .b x1] => some fun kk => f170_0 x0 x1 (fun x2 => kk (tI x2) [])
  | _ => none
theorem e170_0 {β : Type} (A : Pr) (B : Pk) (x0 : Int) (x1 : Bool) (kk : T → List (List T) → Option β) :
    uTs P30 [.i x0, .b x1] (fun a _ => bodyK (mkK Tryz.prog A B [] [] (Hn 170).pt []) Tryz.f170 a kk) = G170_0 A B  x0 x1 (fun x2 => kk (tI x2) []) := by kernel_rfl
theorem o170_0 {β : Type} (N : Nat) : Snd (β := β) Tryz.prog Hn 170 (M170_0 (F170_0 re rk N)) := by
  intro a h kk r ha hr
  unfold M170_0 at ha
  split at ha
  · rename_i hs
    cases ha
    have hk := via_pat hs ((e170_0 re rk  _ _ kk).trans hr)
    exact fn_ok (f := 170) (fn := Tryz.f170) (H := Hn) (by kernel_rfl) (show SndAll Tryz.prog Hn [] from trivial) (spots := []) (by kernel_rfl) trivial hk
  · cases ha
noncomputable def X142_5 : Code := atF Tryz.f142 [true, true, true, false, true, false, false]
theorem i142_5 : firstReg X142_5 = 5 := by kernel_rfl
def GL142_5_0 {β : Type} (A : Pr) (B : Pk) (f170_0 : Int → Bool → (Int → Option β) → Option β) (l142_5_0 : (Q9 β) → Q10 β) (k0 : Q9 β) (x0 x1 x2 x3 x4 x5 x6 x7 x8 x9 xa xb xc xd xe xf xg xh xi xj xk xl xm xn xo xp xq xr xs xt xu xv xw xx xy xz x10 : Int) : Option β :=
    match (A.cm .lss x10 4) with
    | true => (match (A.cm .eql x10 1) with
      | true => (match (A.cm .eql x10 2) with
        | true => (f170_0 x0 true (fun x11 =>
          f170_0 x1 true (fun x12 =>
            f170_0 x2 true (fun x13 =>
              f170_0 x3 true (fun x14 =>
                match (A.cm .eql x10 0) with
                  | true => (l142_5_0 k0 x0 x1 x2 x3 x4 x5 x6 x7 x8 x9 xa xb xc xd xe xf xg xh xi xj x11 x12 x13 x14 xo xp xq xr xs xt xu xv xw xx xy xz (A.ar .add .i64 x10 1))
                  | false => (match (A.cm .eql x10 1) with
                    | true => (l142_5_0 k0 x0 x1 x2 x3 x4 x5 x6 x7 x8 x9 xa xb xc xd xe xf xg xh xi xj xk xl xm xn x11 x12 x13 x14 xs xt xu xv xw xx xy xz (A.ar .add .i64 x10 1))
                    | false => (match (A.cm .eql x10 2) with
                      | true => (l142_5_0 k0 x0 x1 x2 x3 x4 x5 x6 x7 x8 x9 xa xb xc xd xe xf xg xh xi xj xk xl xm xn xo xp xq xr x11 x12 x13 x14 xw xx xy xz (A.ar .add .i64 x10 1))
                      | false => (match (A.cm .eql x10 3) with
                        | true => (l142_5_0 k0 x0 x1 x2 x3 x4 x5 x6 x7 x8 x9 xa xb xc xd xe xf xg xh xi xj xk xl xm xn xo xp xq xr xs xt xu xv x11 x12 x13 x14 (A.ar .add .i64 x10 1))
                        | false => none))))))))
        | false => (f170_0 x0 true (fun x15 =>
          f170_0 x1 (A.cm .eql x10 3) (fun x16 =>
            f170_0 x2 true (fun x17 =>
              f170_0 x3 (A.cm .eql x10 3) (fun x18 =>
                match (A.cm .eql x10 0) with
                  | true => (l142_5_0 k0 x0 x1 x2 x3 x4 x5 x6 x7 x8 x9 xa xb xc xd xe xf xg xh xi xj x15 x16 x17 x18 xo xp xq xr xs xt xu xv xw xx xy xz (A.ar .add .i64 x10 1))
                  | false => (match (A.cm .eql x10 1) with
                    | true => (l142_5_0 k0 x0 x1 x2 x3 x4 x5 x6 x7 x8 x9 xa xb xc xd xe xf xg xh xi xj xk xl xm xn x15 x16 x17 x18 xs xt xu xv xw xx xy xz (A.ar .add .i64 x10 1))
                    | false => (match (A.cm .eql x10 2) with
                      | true => (l142_5_0 k0 x0 x1 x2 x3 x4 x5 x6 x7 x8 x9 xa xb xc xd xe xf xg xh xi xj xk xl xm xn xo xp xq xr x15 x16 x17 x18 xw xx xy xz (A.ar .add .i64 x10 1))
                      | false => (match (A.cm .eql x10 3) with
                        | true => (l142_5_0 k0 x0 x1 x2 x3 x4 x5 x6 x7 x8 x9 xa xb xc xd xe xf xg xh xi xj xk xl xm xn xo xp xq xr xs xt xu xv x15 x16 x17 x18 (A.ar .add .i64 x10 1))
                        | false => none)))))))))
      | false => (match (A.cm .eql x10 2) with
        | true => (f170_0 x0 (A.cm .eql x10 3) (fun x19 =>
          f170_0 x1 true (fun x1a =>
            f170_0 x2 (A.cm .eql x10 3) (fun x1b =>
              f170_0 x3 true (fun x1c =>
                match (A.cm .eql x10 0) with
                  | true => (l142_5_0 k0 x0 x1 x2 x3 x4 x5 x6 x7 x8 x9 xa xb xc xd xe xf xg xh xi xj x19 x1a x1b x1c xo xp xq xr xs xt xu xv xw xx xy xz (A.ar .add .i64 x10 1))
                  | false => (match (A.cm .eql x10 1) with
                    | true => (l142_5_0 k0 x0 x1 x2 x3 x4 x5 x6 x7 x8 x9 xa xb xc xd xe xf xg xh xi xj xk xl xm xn x19 x1a x1b x1c xs xt xu xv xw xx xy xz (A.ar .add .i64 x10 1))
                    | false => (match (A.cm .eql x10 2) with
                      | true => (l142_5_0 k0 x0 x1 x2 x3 x4 x5 x6 x7 x8 x9 xa xb xc xd xe xf xg xh xi xj xk xl xm xn xo xp xq xr x19 x1a x1b x1c xw xx xy xz (A.ar .add .i64 x10 1))
                      | false => (match (A.cm .eql x10 3) with
                        | true => (l142_5_0 k0 x0 x1 x2 x3 x4 x5 x6 x7 x8 x9 xa xb xc xd xe xf xg xh xi xj xk xl xm xn xo xp xq xr xs xt xu xv x19 x1a x1b x1c (A.ar .add .i64 x10 1))
                        | false => none))))))))
        | false => (f170_0 x0 (A.cm .eql x10 3) (fun x1d =>
          f170_0 x1 (A.cm .eql x10 3) (fun x1e =>
            f170_0 x2 (A.cm .eql x10 3) (fun x1f =>
              f170_0 x3 (A.cm .eql x10 3) (fun x1g =>
                match (A.cm .eql x10 0) with
                  | true => (l142_5_0 k0 x0 x1 x2 x3 x4 x5 x6 x7 x8 x9 xa xb xc xd xe xf xg xh xi xj x1d x1e x1f x1g xo xp xq xr xs xt xu xv xw xx xy xz (A.ar .add .i64 x10 1))
                  | false => (match (A.cm .eql x10 1) with
                    | true => (l142_5_0 k0 x0 x1 x2 x3 x4 x5 x6 x7 x8 x9 xa xb xc xd xe xf xg xh xi xj xk xl xm xn x1d x1e x1f x1g xs xt xu xv xw xx xy xz (A.ar .add .i64 x10 1))
                    | false => (match (A.cm .eql x10 2) with
                      | true => (l142_5_0 k0 x0 x1 x2 x3 x4 x5 x6 x7 x8 x9 xa xb xc xd xe xf xg xh xi xj xk xl xm xn xo xp xq xr x1d x1e x1f x1g xw xx xy xz (A.ar .add .i64 x10 1))
                      | false => (match (A.cm .eql x10 3) with
                        | true => (l142_5_0 k0 x0 x1 x2 x3 x4 x5 x6 x7 x8 x9 xa xb xc xd xe xf xg xh xi xj xk xl xm xn xo xp xq xr xs xt xu xv x1d x1e x1f x1g (A.ar .add .i64 x10 1))
                        | false => none))))))))))
    | false => (k0 x4 x5 x6 x7 x8 x9 xa xb xc xd xe xf xg xh xi xj xk xl xm xn xo xp xq xr xs xt xu xv xw xx xy xz)
def L142_5_0 {β : Type} (A : Pr) (B : Pk) (N : Nat) : Nat → (Q9 β) → Q10 β
  | 0, _, _, _, _, _, _, _, _, _, _, _, _, _, _, _, _, _, _, _, _, _, _, _, _, _, _, _, _, _, _, _, _, _, _, _, _, _, _ => none
  | n + 1, k0, x0, x1, x2, x3, x4, x5, x6, x7, x8, x9, xa, xb, xc, xd, xe, xf, xg, xh, xi, xj, xk, xl, xm, xn, xo, xp, xq, xr, xs, xt, xu, xv, xw, xx, xy, xz, x10 =>
    GL142_5_0 A B (F170_0 A B N) (L142_5_0 A B N n) k0 x0 x1 x2 x3 x4 x5 x6 x7 x8 x9 xa xb xc xd xe xf xg xh xi xj xk xl xm xn xo xp xq xr xs xt xu xv xw xx xy xz x10
def P31 : List PT := [.us 2, (.bx [pI, pI, pI, pI, pI, pI, pI, pI, pI, pI, pI, pI, pI, pI, pI, pI]), (.bx [pI, pI, pI, pI, pI, pI, pI, pI, pI, pI, pI, pI, pI, pI, pI, pI]), .us 44]
def S31 (x0 x1 x2 x3 x4 x5 x6 x7 x8 x9 xa xb xc xd xe xf xg xh xi xj xk xl xm xn xo xp xq xr xs xt xu xv : Int) : List T := (T.u :: T.u :: (T.bx [(tI x0), (tI x1), (tI x2), (tI x3), (tI x4), (tI x5), (tI x6), (tI x7), (tI x8), (tI x9), (tI xa), (tI xb), (tI xc), (tI xd), (tI xe), (tI xf)]) :: (T.bx [(tI xg), (tI xh), (tI xi), (tI xj), (tI xk), (tI xl), (tI xm), (tI xn), (tI xo), (tI xp), (tI xq), (tI xr), (tI xs), (tI xt), (tI xu), (tI xv)]) :: T.u :: T.u :: T.u :: T.u :: T.u :: T.u :: T.u :: T.u :: T.u :: T.u :: T.u :: T.u :: T.u :: T.u :: T.u :: T.u :: T.u :: T.u :: T.u :: T.u :: T.u :: T.u :: T.u :: T.u :: T.u :: T.u :: T.u :: T.u :: T.u :: T.u :: T.u :: T.u :: T.u :: T.u :: T.u :: T.u :: T.u :: T.u :: T.u :: T.u :: T.u :: T.u :: T.u :: T.u :: [])
def P32 : List PT := [.us 1, (.bx [pI, pI, pI, pI]), (.bx [pI, pI, pI, pI, pI, pI, pI, pI, pI, pI, pI, pI, pI, pI, pI, pI]), (.bx [pI, pI, pI, pI, pI, pI, pI, pI, pI, pI, pI, pI, pI, pI, pI, pI]), pI, .us 43]
end
