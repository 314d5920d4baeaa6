/-
  Trees of functions that this law does not reach: kept to share texts with another seat (definitions alone).
-/
import Derived.Test.YthlnfebecphcmaaGreatKc
set_option linter.unusedVariables false
set_option maxRecDepth 100000
namespace Go.Proofs.YthlnfebecphcmaaGreat
open Go.Os
abbrev Z0 (β : Type) := Int → Int → Int → Int → Int → Int → Int → Int → Int → List R → Int → Option β
abbrev Z1 (β : Type) := Int → Int → Int → Int → Int → Int → Int → Int → Int → List R → Int → Int → Option β
abbrev Z2 (β : Type) := Int → Int → Int → Int → Int → List R → Int → Int → Bool → Bool → Bool → Bool → Bool → Bool → Bool → Bool → List R → Int → Int → Bool → Option β
abbrev Z3 (β : Type) := Int → Int → Int → Int → Int → List R → Int → Int → Bool → Bool → Bool → Bool → Bool → Bool → Bool → Bool → List R → Int → Int → Option β
abbrev Z4 (β : Type) := Int → Int → Int → Int → Int → List R → Int → Int → Bool → Bool → Bool → Bool → Bool → Bool → Bool → Bool → List R → Int → Int → Int → Option β
abbrev Z5 (β : Type) := Int → Int → Int → Int → Int → Int → Int → Int → Int → Int → Option β
abbrev Z6 (β : Type) := Int → Int → Int → Int → Int → Int → Int → Int → Int → Int → Int → Option β
abbrev Z7 (β : Type) := Int → Int → Int → Int → Int → Int → List R → Int → Int → Int → Int → Int → List R → Int → Int → Bool → Bool → Bool → Bool → Bool → Bool → Bool → Bool → List R → Int → Int → Int → Int → Int → Int → Int → Int → Option β
abbrev Z8 (β : Type) := Int → Int → Int → Int → Int → Int → List R → Int → Int → Int → Int → Int → List R → Int → Int → Bool → Bool → Bool → Bool → Bool → Bool → Bool → Bool → List R → Int → Int → Int → Int → Int → Int → Int → Int → Int → Int → Int → Int → Int → Option β
abbrev Z9 (β : Type) := Int → Int → Int → Int → Int → Int → Int → Int → Int → Int → Int → Int → Int → Int → Int → Int → Int → Int → Int → Int → Int → Int → Int → Int → Int → Int → Int → Int → Int → Int → Int → Int → Option β
abbrev Z10 (β : Type) := Int → Int → Int → Int → Int → Int → Int → Int → Int → Int → Int → Int → Int → Int → Int → Int → Int → Int → Int → Int → Int → Int → Int → Int → Int → Int → Int → Int → Int → Int → Int → Int → Int → Int → Int → Int → Int → Option β
abbrev Z11 (β : Type) := Int → Int → Int → Int → Int → Int → Int → Int → Int → Int → Int → Int → Int → Int → Int → Int → Option β
abbrev Z12 (β : Type) := Int → Int → Int → Int → Int → Int → List R → Int → Int → Int → Int → Int → List R → Int → Int → Bool → Bool → Bool → Bool → Bool → Bool → Bool → Bool → List R → Int → Int → List R → Int → Option β
abbrev Z13 (β : Type) := Int → Int → Int → Int → Int → Int → List R → Int → Int → Int → Int → Int → List R → Int → Int → Bool → Bool → Bool → Bool → Bool → Bool → Bool → Bool → List R → Int → Int → Int → Int → Option β
abbrev Z14 (β : Type) := Int → Int → Int → Int → Int → Int → List R → List R → Int → Int → Option β
abbrev Z15 (β : Type) := Int → Int → Int → Int → Int → Int → List R → Int → Int → Int → Int → Int → Int → Int → Bool → Bool → Bool → Bool → Bool → Bool → Bool → Bool → List R → Int → Int → Option β
abbrev Z16 (β : Type) := Int → Int → Int → Int → Int → Int → List R → Int → Int → Int → Int → Int → Int → Int → Bool → Bool → Bool → Bool → Bool → Bool → Bool → Bool → List R → Int → Int → Int → Int → Option β
abbrev Z17 (β : Type) := Int → Int → Int → Int → Int → Int → Int → Bool → Bool → Bool → Bool → Bool → Bool → Bool → Bool → List R → Int → Int → Int → Int → Int → Int → Bool → Int → Int → Int → Int → Int → Int → List R → Int → Int → Option β
abbrev Z18 (β : Type) := Int → Int → Int → Int → Int → Int → Int → Bool → Bool → Bool → Bool → Bool → Bool → Bool → Bool → List R → Int → Int → Int → Int → Int → Int → Int → Int → Int → Int → Int → Int → List R → Int → Int → Option β
abbrev Z19 (β : Type) := Int → Int → Int → Int → Int → Int → Int → Bool → Bool → Bool → Bool → Bool → Bool → Bool → Bool → List R → Int → Int → Int → Int → Int → Int → Int → Int → Int → Int → Int → Int → Int → Int → List R → Int → Int → List R → Int → Int → Option β
abbrev Z20 (β : Type) := Int → Int → Int → Int → Int → Int → Int → Bool → Bool → Bool → Bool → Bool → Bool → Bool → Bool → List R → Int → Int → Int → Int → Int → Int → Bool → Int → List R → Int → Int → Option β
abbrev Z21 (β : Type) := Int → Int → Int → Int → Int → Int → Int → Bool → Bool → Bool → Bool → Bool → Bool → Bool → Bool → List R → Int → Int → Int → Int → Int → Int → Int → List R → Int → Int → Option β
abbrev Z22 (β : Type) := Int → Int → Int → Int → Int → Int → List R → Int → Int → Int → Int → Int → Int → Int → Bool → Bool → Bool → Bool → Bool → Bool → Bool → Bool → List R → Int → Int → List R → Int → Int → Option β
abbrev Z23 (β : Type) := Int → Int → Int → Int → Int → Int → List R → Int → Int → Int → Int → Int → List R → Int → Int → Bool → Bool → Bool → Bool → Bool → Bool → Bool → Bool → List R → Int → Int → Option β
abbrev Z24 (β : Type) := Int → Int → Int → Int → Int → Int → List R → Int → Int → Int → Int → Int → List R → Int → Int → Bool → Bool → Bool → Bool → Bool → Bool → Bool → Bool → List R → Int → Int → Bool → Option β
abbrev Z25 (β : Type) := Int → Int → Int → Int → Int → Int → List R → Int → Int → Int → Int → Int → List R → Int → Int → Bool → Bool → Bool → Bool → Bool → Bool → Bool → Bool → List R → Int → Int → List R → Int → Int → Option β
abbrev Z26 (β : Type) := Int → Int → Int → Int → Int → List R → Int → Int → Bool → Bool → Bool → Bool → Bool → Bool → Bool → Bool → List R → Int → Int → Int → Int → Int → Int → Bool → Int → Int → Int → Int → Int → Int → List R → Int → Int → Option β
abbrev Z27 (β : Type) := Int → Int → Int → Int → Int → List R → Int → Int → Bool → Bool → Bool → Bool → Bool → Bool → Bool → Bool → List R → Int → Int → Int → Int → Int → Int → Int → Int → Int → Int → Int → Int → List R → Int → Int → Option β
abbrev Z28 (β : Type) := Int → Int → Int → Int → Int → List R → Int → Int → Bool → Bool → Bool → Bool → Bool → Bool → Bool → Bool → List R → Int → Int → Int → Int → Int → Int → Int → Int → Int → Int → Int → Int → Int → Int → List R → Int → Int → List R → Int → Int → Option β
abbrev Z29 (β : Type) := Int → Int → Int → Int → Int → List R → Int → Int → Bool → Bool → Bool → Bool → Bool → Bool → Bool → Bool → List R → Int → Int → Int → Int → Int → Int → Bool → Int → List R → Int → Int → Option β
abbrev Z30 (β : Type) := Int → Int → Int → Int → Int → List R → Int → Int → Bool → Bool → Bool → Bool → Bool → Bool → Bool → Bool → List R → Int → Int → Int → Int → Int → Int → Int → List R → Int → Int → Option β
abbrev Z31 (β : Type) := Int → Int → Int → Int → Int → Int → Int → Int → Int → Int → Int → Int → Int → Option β
abbrev Z32 (β : Type) := Int → Int → Int → Int → Int → Int → Int → Bool → Bool → Bool → Bool → Bool → Bool → Bool → Bool → Int → Int → Int → Int → Int → Int → Int → Int → Int → Bool → Bool → Bool → Bool → Bool → Bool → Bool → Bool → Int → Int → Option β
abbrev Z33 (β : Type) := Int → Int → Int → Int → Int → Int → Int → Bool → Bool → Bool → Bool → Bool → Bool → Bool → Bool → Int → Int → Int → Int → Int → Int → Int → Int → Int → Bool → Bool → Bool → Bool → Bool → Bool → Bool → Bool → Int → Int → Int → Option β
abbrev Z34 (β : Type) := Int → Int → Int → Int → Int → Int → Int → Int → Int → Int → Int → Int → List R → Int → Option β
abbrev Z35 (β : Type) := Int → Int → Int → Int → Int → Int → List R → Int → Int → Int → Int → Int → Int → Int → Option β
abbrev Z36 (β : Type) := Int → Int → Int → Int → Int → Int → List R → Int → Int → Int → Int → Int → Int → List R → Int → Option β
def G103_0 {β : Type} (A : Pr) (B : Pk) (x0 x1 x2 x3 : Int) (k0 : Bool → Option β) : Option β :=
    match (A.cm .leq 0 x0) with
    | true => (match (A.cm .leq x0 x2) with
      | true => (match (A.cm .leq x2 4096) with
        | true => (match (A.cm .leq 0 x1) with
          | true => (match (A.cm .leq x1 x3) with
            | true => (k0 (A.cm .leq x3 4096))
            | false => (k0 false))
          | false => (k0 false))
        | false => (k0 false))
      | false => (k0 false))
    | false => (k0 false)
def F103_0 {β : Type} (A : Pr) (B : Pk) (N : Nat) (x0 x1 x2 x3 : Int) (k0 : Bool → Option β) : Option β :=
  G103_0 A B  x0 x1 x2 x3 k0
def G104_0 {β : Type} (A : Pr) (B : Pk) (x0 x1 x2 x3 : Int) (k0 : Bool → Option β) : Option β :=
    match (A.cm .geq x0 x2) with
    | true => (k0 true)
    | false => (k0 (A.cm .geq x1 x3))
def F104_0 {β : Type} (A : Pr) (B : Pk) (N : Nat) (x0 x1 x2 x3 : Int) (k0 : Bool → Option β) : Option β :=
  G104_0 A B  x0 x1 x2 x3 k0
def G106_0 {β : Type} (A : Pr) (B : Pk) (x0 x1 : Int) (k0 : Int → Option β) : Option β :=
    match (A.cm .lss x1 1) with
    | true => (k0 0)
    | false => (match (A.nz x1) with
      | true => none
      | false => (match (A.nz x1) with
        | true => none
        | false => (match (A.cm .gtr (A.ar .rem .i64 x0 x1) 0) with
          | true => (k0 (A.ar .add .i64 (A.ar .quo .i64 x0 x1) 1))
          | false => (k0 (A.ar .quo .i64 x0 x1)))))
def F106_0 {β : Type} (A : Pr) (B : Pk) (N : Nat) (x0 x1 : Int) (k0 : Int → Option β) : Option β :=
  G106_0 A B  x0 x1 k0
def G105_0 {β : Type} (A : Pr) (B : Pk) (f103_0 : Int → Int → Int → Int → (Bool → Option β) → Option β) (f106_0 : Int → Int → (Int → Option β) → Option β) (x0 x1 x2 x3 x4 x5 : Int) (k0 : Int → Int → Int → Int → Option β) : Option β :=
    f103_0 x0 x1 x2 x3 (fun x6 =>
    match (A.bn x6) with
      | true => (k0 0 0 0 0)
      | false => (match (A.cm .lss x4 1) with
        | true => (k0 0 0 0 0)
        | false => (match (A.cm .gtr x4 4096) with
          | true => (k0 0 0 0 0)
          | false => (match (A.cm .lss x5 1) with
            | true => (k0 0 0 0 0)
            | false => (match (A.cm .gtr x5 4096) with
              | true => (k0 0 0 0 0)
              | false => (f106_0 x0 x4 (fun x7 =>
                f106_0 x1 x5 (fun x8 =>
                  f106_0 x2 x4 (fun x9 =>
                    f106_0 x3 x5 (fun xa =>
                      k0 x7 x8 x9 xa))))))))))
def F105_0 {β : Type} (A : Pr) (B : Pk) (N : Nat) (x0 x1 x2 x3 x4 x5 : Int) (k0 : Int → Int → Int → Int → Option β) : Option β :=
  G105_0 A B (F103_0 A B N) (F106_0 A B N) x0 x1 x2 x3 x4 x5 k0
def G107_0 {β : Type} (A : Pr) (B : Pk) (x0 x1 : Int) (k0 : Int → Option β) : Option β :=
    match (A.cm .lss x1 1) with
    | true => (k0 0)
    | false => (match (A.nz x1) with
      | true => none
      | false => (match (A.nz x1) with
        | true => none
        | false => (match (A.cm .lss (A.ar .rem .i64 x0 x1) 0) with
          | true => (k0 (A.ar .sub .i64 (A.ar .quo .i64 x0 x1) 1))
          | false => (k0 (A.ar .quo .i64 x0 x1)))))
def F107_0 {β : Type} (A : Pr) (B : Pk) (N : Nat) (x0 x1 : Int) (k0 : Int → Option β) : Option β :=
  G107_0 A B  x0 x1 k0
def G108_0 {β : Type} (A : Pr) (B : Pk) (f103_0 : Int → Int → Int → Int → (Bool → Option β) → Option β) (x0 x1 x2 x3 : Int) (k0 : Int → Option β) : Option β :=
    f103_0 x0 x1 x2 x3 (fun x4 =>
    match (A.bn x4) with
      | true => (k0 0)
      | false => (k0 (A.ar .mul .i64 (A.ar .sub .i64 x2 x0) (A.ar .sub .i64 x3 x1))))
def F108_0 {β : Type} (A : Pr) (B : Pk) (N : Nat) (x0 x1 x2 x3 : Int) (k0 : Int → Option β) : Option β :=
  G108_0 A B (F103_0 A B N) x0 x1 x2 x3 k0
def G109_0 {β : Type} (A : Pr) (B : Pk) (f104_0 : Int → Int → Int → Int → (Bool → Option β) → Option β) (x0 x1 x2 x3 x4 x5 x6 x7 : Int) (k0 : Int → Int → Int → Int → Option β) : Option β :=
    f104_0 (A.mx x0 x4) (A.mx x1 x5) (A.mn x2 x6) (A.mn x3 x7) (fun x8 =>
    match x8 with
      | true => (k0 0 0 0 0)
      | false => (k0 (A.mx x0 x4) (A.mx x1 x5) (A.mn x2 x6) (A.mn x3 x7)))
def F109_0 {β : Type} (A : Pr) (B : Pk) (N : Nat) (x0 x1 x2 x3 x4 x5 x6 x7 : Int) (k0 : Int → Int → Int → Int → Option β) : Option β :=
  G109_0 A B (F104_0 A B N) x0 x1 x2 x3 x4 x5 x6 x7 k0
def G146_0 {β : Type} (A : Pr) (B : Pk) (x0 : Int) (k0 : Bool → Option β) : Option β :=
    match (A.cm .geq x0 0) with
    | true => (k0 (A.cm .leq x0 5))
    | false => (k0 false)
def F146_0 {β : Type} (A : Pr) (B : Pk) (N : Nat) (x0 : Int) (k0 : Bool → Option β) : Option β :=
  G146_0 A B  x0 k0
def G111_0 {β : Type} (A : Pr) (B : Pk) (f146_0 : Int → (Bool → Option β) → Option β) (x0 x1 : Int) (k0 : List R → Option β) : Option β :=
    f146_0 x0 (fun x2 =>
    match (A.bn x2) with
      | true => (k0 [])
      | false => (match (A.cm .lss x1 0) with
        | true => (k0 [])
        | false => (match (A.cm .gtr x1 x0) with
          | true => (k0 [])
          | false => (match (A.cm .eql x1 0) with
            | true => (k0 [(R.i .i64 0)])
            | false => (k0 [(R.i .i64 (A.ar .sub .i64 (A.ar .mul .i64 3 x1) 2)), (R.i .i64 (A.ar .sub .i64 (A.ar .mul .i64 3 x1) 1)), (R.i .i64 (A.ar .mul .i64 3 x1))])))))
def F111_0 {β : Type} (A : Pr) (B : Pk) (N : Nat) (x0 x1 : Int) (k0 : List R → Option β) : Option β :=
  G111_0 A B (F146_0 A B N) x0 x1 k0
def G133_1 {β : Type} (A : Pr) (B : Pk) (x0 x1 x2 x3 x4 : Int) (x5 : List R) (x6 x7 : Int) (x8 x9 xa xb xc xd xe xf : Bool) (xg : List R) (xh xi xj : Int) (k0 : Int → Int → Option β) : Option β :=
    match (A.cm .lss xj 0) with
    | true => (k0 0 0)
    | false => (match (A.cm .gtr xj x1) with
      | true => (k0 0 0)
      | false => (match (A.cm .eql (A.on (A.len x5)) 0) with
        | true => (k0 12 12)
        | false => (match (A.cm .geq xj (A.on (A.len x5))) with
          | true => (k0 0 0)
          | false => (match (A.ix xj (A.len x5)) with
            | some xk => (match (B.okE [(Sh.i .i64), (Sh.i .i64)] true x5 xk) with
              | true => (k0 (B.ci x5 xk 0) (B.ci x5 xk 1))
              | false => none)
            | none => none))))
def F133_1 {β : Type} (A : Pr) (B : Pk) (N : Nat) (x0 x1 x2 x3 x4 : Int) (x5 : List R) (x6 x7 : Int) (x8 x9 xa xb xc xd xe xf : Bool) (xg : List R) (xh xi xj : Int) (k0 : Int → Int → Option β) : Option β :=
  G133_1 A B  x0 x1 x2 x3 x4 x5 x6 x7 x8 x9 xa xb xc xd xe xf xg xh xi xj k0
def G134_0 {β : Type} (A : Pr) (B : Pk) (f104_0 : Int → Int → Int → Int → (Bool → Option β) → Option β) (f106_0 : Int → Int → (Int → Option β) → Option β) (f107_0 : Int → Int → (Int → Option β) → Option β) (x0 x1 x2 x3 x4 x5 : Int) (k0 : Int → Option β) : Option β :=
    f104_0 x0 x1 x2 x3 (fun x6 =>
    match x6 with
      | true => (k0 0)
      | false => (match (A.sh (A.cv .u64 x4)) with
        | true => (match (A.sh (A.cv .u64 x5)) with
          | true => (f106_0 x2 (A.ar .shl .i64 1 (A.cv .u64 x4)) (fun x7 =>
            f107_0 x0 (A.ar .shl .i64 1 (A.cv .u64 x4)) (fun x8 =>
              f106_0 x3 (A.ar .shl .i64 1 (A.cv .u64 x5)) (fun x9 =>
                f107_0 x1 (A.ar .shl .i64 1 (A.cv .u64 x5)) (fun xa =>
                  k0 (A.ar .mul .i64 (A.ar .sub .i64 x7 x8) (A.ar .sub .i64 x9 xa)))))))
          | false => none)
        | false => none))
def F134_0 {β : Type} (A : Pr) (B : Pk) (N : Nat) (x0 x1 x2 x3 x4 x5 : Int) (k0 : Int → Option β) : Option β :=
  G134_0 A B (F104_0 A B N) (F106_0 A B N) (F107_0 A B N) x0 x1 x2 x3 x4 x5 k0
def G135_0 {β : Type} (A : Pr) (B : Pk) (f146_0 : Int → (Bool → Option β) → Option β) (f105_0 : Int → Int → Int → Int → Int → Int → (Int → Int → Int → Int → Option β) → Option β) (x0 x1 x2 x3 x4 x5 : Int) (k0 : Int → Int → Int → Int → Option β) : Option β :=
    f146_0 x4 (fun x6 =>
    match (A.bn x6) with
      | true => (k0 0 0 0 0)
      | false => (match (A.cm .lss x5 0) with
        | true => (k0 0 0 0 0)
        | false => (match (A.cm .gtr x5 x4) with
          | true => (k0 0 0 0 0)
          | false => (match (A.sh (A.cv .u64 (A.ar .sub .i64 x4 x5))) with
            | true => (f105_0 x0 x1 x2 x3 (A.ar .shl .i64 1 (A.cv .u64 (A.ar .sub .i64 x4 x5))) (A.ar .shl .i64 1 (A.cv .u64 (A.ar .sub .i64 x4 x5))) (fun x7 x8 x9 xa =>
              k0 x7 x8 x9 xa))
            | false => none))))
def F135_0 {β : Type} (A : Pr) (B : Pk) (N : Nat) (x0 x1 x2 x3 x4 x5 : Int) (k0 : Int → Int → Int → Int → Option β) : Option β :=
  G135_0 A B (F146_0 A B N) (F105_0 A B N) x0 x1 x2 x3 x4 x5 k0
def G188_0 {β : Type} (A : Pr) (B : Pk) (f146_0 : Int → (Bool → Option β) → Option β) (x0 : Int) (k0 : Int → Option β) : Option β :=
    f146_0 x0 (fun x1 =>
    match (A.bn x1) with
      | true => (k0 0)
      | false => (k0 (A.ar .add .i64 (A.ar .mul .i64 3 x0) 1)))
def F188_0 {β : Type} (A : Pr) (B : Pk) (N : Nat) (x0 : Int) (k0 : Int → Option β) : Option β :=
  G188_0 A B (F146_0 A B N) x0 k0
def G165_0 {β : Type} (A : Pr) (B : Pk) (f188_0 : Int → (Int → Option β) → Option β) (x0 x1 : Int) (k0 : Int → Int → Bool → Option β) : Option β :=
    match (A.cm .lss x0 0) with
    | true => (k0 0 0 false)
    | false => (f188_0 x1 (fun x2 =>
      match (A.cm .geq x0 x2) with
        | true => (k0 0 0 false)
        | false => (match (A.cm .eql x0 0) with
          | true => (k0 x1 0 true)
          | false => (match (A.nz 3) with
            | true => none
            | false => (k0 (A.ar .add .i64 (A.ar .sub .i64 x1 (A.ar .quo .i64 (A.ar .add .i64 x0 2) 3)) 1) (A.ar .add .i64 (A.ar .sub .i64 x0 (A.ar .mul .i64 3 (A.ar .quo .i64 (A.ar .add .i64 x0 2) 3))) 3) true)))))
def F165_0 {β : Type} (A : Pr) (B : Pk) (N : Nat) (x0 x1 : Int) (k0 : Int → Int → Bool → Option β) : Option β :=
  G165_0 A B (F188_0 A B N) x0 x1 k0
def G166_0 {β : Type} (A : Pr) (B : Pk) (f103_0 : Int → Int → Int → Int → (Bool → Option β) → Option β) (l166_5_0 : (Z9 β) → Z10 β) (x0 x1 x2 x3 : Int) (k0 : Z11 β) : Option β :=
    f103_0 x0 x1 x2 x3 (fun x4 =>
    match (A.bn x4) with
      | true => (k0 0 0 0 0 0 0 0 0 0 0 0 0 0 0 0 0)
      | false => (l166_5_0 (fun x5 x6 x7 x8 x9 xa xb xc xd xe xf xg xh xi xj xk xl xm xn xo xp xq xr xs xt xu xv xw xx xy xz x10 =>
        k0 xl xm xn xo xp xq xr xs xt xu xv xw xx xy xz x10) x0 x1 x2 x3 0 0 0 0 0 0 0 0 0 0 0 0 0 0 0 0 0 0 0 0 0 0 0 0 0 0 0 0 0 0 0 0 0))
def GL166_5_0 {β : Type} (A : Pr) (B : Pk) (l166_5_0 : (Z9 β) → Z10 β) (k0 : Z9 β) (x0 x1 x2 x3 x4 x5 x6 x7 x8 x9 xa xb xc xd xe xf xg xh xi xj xk xl xm xn xo xp xq xr xs xt xu xv xw xx xy xz x10 : Int) : Option β :=
    match (A.cm .lss x10 4) with
    | true => (match (A.sh 1) with
      | true => (match (A.nz 2) with
        | true => none
        | false => (match (A.nz 2) with
          | true => none
          | false => (match (A.nz 2) with
            | true => none
            | false => (match (A.nz 2) with
              | true => none
              | false => (match (A.cm .eql x10 0) with
                | true => (l166_5_0 k0 x0 x1 x2 x3 x4 x5 x6 x7 x8 x9 xa xb xc xd xe xf xg xh xi xj (A.ar .quo .i64 (A.ar .add .i64 x0 (A.ar .sub .i64 1 (A.ar .and .i64 x10 1))) 2) (A.ar .quo .i64 (A.ar .add .i64 x1 (A.ar .sub .i64 1 (A.ar .shr .i64 x10 1))) 2) (A.ar .quo .i64 (A.ar .add .i64 x2 (A.ar .sub .i64 1 (A.ar .and .i64 x10 1))) 2) (A.ar .quo .i64 (A.ar .add .i64 x3 (A.ar .sub .i64 1 (A.ar .shr .i64 x10 1))) 2) xo xp xq xr xs xt xu xv xw xx xy xz (A.ar .add .i64 x10 1))
                | false => (match (A.cm .eql x10 1) with
                  | true => (l166_5_0 k0 x0 x1 x2 x3 x4 x5 x6 x7 x8 x9 xa xb xc xd xe xf xg xh xi xj xk xl xm xn (A.ar .quo .i64 (A.ar .add .i64 x0 (A.ar .sub .i64 1 (A.ar .and .i64 x10 1))) 2) (A.ar .quo .i64 (A.ar .add .i64 x1 (A.ar .sub .i64 1 (A.ar .shr .i64 x10 1))) 2) (A.ar .quo .i64 (A.ar .add .i64 x2 (A.ar .sub .i64 1 (A.ar .and .i64 x10 1))) 2) (A.ar .quo .i64 (A.ar .add .i64 x3 (A.ar .sub .i64 1 (A.ar .shr .i64 x10 1))) 2) xs xt xu xv xw xx xy xz (A.ar .add .i64 x10 1))
                  | false => (match (A.cm .eql x10 2) with
                    | true => (l166_5_0 k0 x0 x1 x2 x3 x4 x5 x6 x7 x8 x9 xa xb xc xd xe xf xg xh xi xj xk xl xm xn xo xp xq xr (A.ar .quo .i64 (A.ar .add .i64 x0 (A.ar .sub .i64 1 (A.ar .and .i64 x10 1))) 2) (A.ar .quo .i64 (A.ar .add .i64 x1 (A.ar .sub .i64 1 (A.ar .shr .i64 x10 1))) 2) (A.ar .quo .i64 (A.ar .add .i64 x2 (A.ar .sub .i64 1 (A.ar .and .i64 x10 1))) 2) (A.ar .quo .i64 (A.ar .add .i64 x3 (A.ar .sub .i64 1 (A.ar .shr .i64 x10 1))) 2) xw xx xy xz (A.ar .add .i64 x10 1))
                    | false => (match (A.cm .eql x10 3) with
                      | true => (l166_5_0 k0 x0 x1 x2 x3 x4 x5 x6 x7 x8 x9 xa xb xc xd xe xf xg xh xi xj xk xl xm xn xo xp xq xr xs xt xu xv (A.ar .quo .i64 (A.ar .add .i64 x0 (A.ar .sub .i64 1 (A.ar .and .i64 x10 1))) 2) (A.ar .quo .i64 (A.ar .add .i64 x1 (A.ar .sub .i64 1 (A.ar .shr .i64 x10 1))) 2) (A.ar .quo .i64 (A.ar .add .i64 x2 (A.ar .sub .i64 1 (A.ar .and .i64 x10 1))) 2) (A.ar .quo .i64 (A.ar .add .i64 x3 (A.ar .sub .i64 1 (A.ar .shr .i64 x10 1))) 2) (A.ar .add .i64 x10 1))
                      | false => none))))))))
      | false => none)
    | false => (k0 x4 x5 x6 x7 x8 x9 xa xb xc xd xe xf xg xh xi xj xk xl xm xn xo xp xq xr xs xt xu xv xw xx xy xz)
def L166_5_0 {β : Type} (A : Pr) (B : Pk) (N : Nat) : Nat → (Z9 β) → Z10 β
  | 0, _, _, _, _, _, _, _, _, _, _, _, _, _, _, _, _, _, _, _, _, _, _, _, _, _, _, _, _, _, _, _, _, _, _, _, _, _, _ => none
  | n + 1, k0, x0, x1, x2, x3, x4, x5, x6, x7, x8, x9, xa, xb, xc, xd, xe, xf, xg, xh, xi, xj, xk, xl, xm, xn, xo, xp, xq, xr, xs, xt, xu, xv, xw, xx, xy, xz, x10 =>
    GL166_5_0 A B (L166_5_0 A B N n) k0 x0 x1 x2 x3 x4 x5 x6 x7 x8 x9 xa xb xc xd xe xf xg xh xi xj xk xl xm xn xo xp xq xr xs xt xu xv xw xx xy xz x10
def F166_0 {β : Type} (A : Pr) (B : Pk) (N : Nat) (x0 x1 x2 x3 : Int) (k0 : Z11 β) : Option β :=
  G166_0 A B (F103_0 A B N) (L166_5_0 A B N N) x0 x1 x2 x3 k0
def G136_0 {β : Type} (A : Pr) (B : Pk) (f165_0 : Int → Int → (Int → Int → Bool → Option β) → Option β) (f103_0 : Int → Int → Int → Int → (Bool → Option β) → Option β) (f135_0 : Int → Int → Int → Int → Int → Int → (Int → Int → Int → Int → Option β) → Option β) (f166_0 : Int → Int → Int → Int → (Z11 β) → Option β) (x0 x1 x2 x3 x4 x5 : Int) (k0 : Int → Int → Int → Int → Option β) : Option β :=
    f165_0 x5 x4 (fun x6 x7 x8 =>
    match (A.bn x8) with
      | true => (k0 0 0 0 0)
      | false => (f103_0 x0 x1 x2 x3 (fun x9 =>
        match (A.bn x9) with
          | true => (k0 0 0 0 0)
          | false => (match (A.cm .eql x5 0) with
            | true => (f135_0 x0 x1 x2 x3 x4 0 (fun xa xb xc xd =>
              k0 xa xb xc xd))
            | false => (f135_0 x0 x1 x2 x3 x4 (A.ar .add .i64 (A.ar .sub .i64 x4 x6) 1) (fun xe xf xg xh =>
              f166_0 xe xf xg xh (fun xi xj xk xl xm xn xo xp xq xr xs xt xu xv xw xx =>
                match (A.cm .eql x7 0) with
                  | true => (k0 xi xj xk xl)
                  | false => (match (A.cm .eql x7 1) with
                    | true => (k0 xm xn xo xp)
                    | false => (match (A.cm .eql x7 2) with
                      | true => (k0 xq xr xs xt)
                      | false => (match (A.cm .eql x7 3) with
                        | true => (k0 xu xv xw xx)
                        | false => none))))))))))
def F136_0 {β : Type} (A : Pr) (B : Pk) (N : Nat) (x0 x1 x2 x3 x4 x5 : Int) (k0 : Int → Int → Int → Int → Option β) : Option β :=
  G136_0 A B (F165_0 A B N) (F103_0 A B N) (F135_0 A B N) (F166_0 A B N) x0 x1 x2 x3 x4 x5 k0
def G89_0 {β : Type} (A : Pr) (B : Pk) (l89_2_0 : (Int → Int → Bool → Option β) → (Int → Int → Option β) → Int → Int → List R → Int → Int → Option β) (x0 x1 : Int) (x2 : List R) (k0 : Bool → Option β) : Option β :=
    l89_2_0 (fun x3 x4 x5 =>
    k0 x5) (fun x6 x7 =>
    k0 true) x0 x1 x2 (A.on (A.len x2)) 0
def GL89_2_0 {β : Type} (A : Pr) (B : Pk) (l89_2_0 : (Int → Int → Bool → Option β) → (Int → Int → Option β) → Int → Int → List R → Int → Int → Option β) (k0 : Int → Int → Bool → Option β) (k1 : Int → Int → Option β) (x0 x1 : Int) (x2 : List R) (x3 x4 : Int) : Option β :=
    match (A.cm .lss x4 x3) with
    | true => (match (A.ix x4 (A.len x2)) with
      | some x5 => (match (B.okE [(Sh.i .i64)] false x2 x5) with
        | true => (match (A.cm .lss (B.ci x2 x5 0) x0) with
          | true => (k0 x0 x1 false)
          | false => (match (A.cm .gtr (B.ci x2 x5 0) x1) with
            | true => (k0 x0 x1 false)
            | false => (l89_2_0 k0 k1 x0 x1 x2 x3 (A.ar .add .i64 x4 1))))
        | false => none)
      | none => none)
    | false => (k1 x0 x1)
def L89_2_0 {β : Type} (A : Pr) (B : Pk) (N : Nat) : Nat → (Int → Int → Bool → Option β) → (Int → Int → Option β) → Int → Int → List R → Int → Int → Option β
  | 0, _, _, _, _, _, _, _ => none
  | n + 1, k0, k1, x0, x1, x2, x3, x4 =>
    GL89_2_0 A B (L89_2_0 A B N n) k0 k1 x0 x1 x2 x3 x4
def F89_0 {β : Type} (A : Pr) (B : Pk) (N : Nat) (x0 x1 : Int) (x2 : List R) (k0 : Bool → Option β) : Option β :=
  G89_0 A B (L89_2_0 A B N N) x0 x1 x2 k0
def G67_0 {β : Type} (A : Pr) (B : Pk) (f103_0 : Int → Int → Int → Int → (Bool → Option β) → Option β) (f104_0 : Int → Int → Int → Int → (Bool → Option β) → Option β) (f89_0 : Int → Int → List R → (Bool → Option β) → Option β) (f106_0 : Int → Int → (Int → Option β) → Option β) (f107_0 : Int → Int → (Int → Option β) → Option β) (l67_4_0 : (Int → Int → Int → Int → Int → Int → List R → Int → Option β) → (Int → Int → Int → Int → Int → Int → List R → Option β) → Z14 β) (l67_14_0 : (Int → Option β) → (Option β) → Z14 β) (x0 x1 x2 x3 x4 x5 : Int) (x6 : List R) (k0 : Int → Option β) : Option β :=
    f103_0 x0 x1 x2 x3 (fun x7 =>
    match (A.bn x7) with
      | true => (k0 12)
      | false => (f104_0 x0 x1 x2 x3 (fun x8 =>
        match x8 with
          | true => (k0 12)
          | false => (f89_0 1 4096 [(R.i .i64 x4), (R.i .i64 x5)] (fun x9 =>
            match (A.bn x9) with
              | true => (k0 12)
              | false => (f89_0 1 4 [(R.i .i64 (A.on (A.len x6)))] (fun xa =>
                match (A.bn xa) with
                  | true => (k0 12)
                  | false => (l67_4_0 (fun xb xc xd xe xf xg xh xi =>
                    k0 xi) (fun xj xk xl xm xn xo xp =>
                    f106_0 xl xn (fun xq =>
                      f107_0 xj xn (fun xr =>
                        f106_0 xm xo (fun xs =>
                          f107_0 xk xo (fun xt =>
                            match (A.cm .gtr (A.ar .mul .i64 (A.ar .sub .i64 xq xr) (A.ar .sub .i64 xs xt)) 1024) with
                              | true => (k0 5)
                              | false => (l67_14_0 (fun xu =>
                                k0 xu) (k0 0) xj xk xl xm xn xo xp xp (A.on (A.len xp)) 0)))))) x0 x1 x2 x3 x4 x5 x6 x6 (A.on (A.len x6)) 0))))))))
def GL67_14_0 {β : Type} (A : Pr) (B : Pk) (f105_0 : Int → Int → Int → Int → Int → Int → (Int → Int → Int → Int → Option β) → Option β) (f108_0 : Int → Int → Int → Int → (Int → Option β) → Option β) (l67_14_0 : (Int → Option β) → (Option β) → Z14 β) (k0 : Int → Option β) (k1 : Option β) (x0 x1 x2 x3 x4 x5 : Int) (x6 x7 : List R) (x8 x9 : Int) : Option β :=
    match (A.cm .lss x9 x8) with
    | true => (match (A.ix x9 (A.len x7)) with
      | some xa => (match (B.okE [(Sh.i .i64), Sh.b, (Sh.i .i64), (Sh.i .i64)] true x7 xa) with
        | true => (f105_0 x0 x1 x2 x3 (B.ci x7 xa 2) (B.ci x7 xa 3) (fun xb xc xd xe =>
          f108_0 xb xc xd xe (fun xf =>
            match (A.cm .gtr xf 1048576) with
              | true => (k0 5)
              | false => (l67_14_0 k0 k1 x0 x1 x2 x3 x4 x5 x6 x7 x8 (A.ar .add .i64 x9 1)))))
        | false => none)
      | none => none)
    | false => k1
def L67_14_0 {β : Type} (A : Pr) (B : Pk) (N : Nat) : Nat → (Int → Option β) → (Option β) → Z14 β
  | 0, _, _, _, _, _, _, _, _, _, _, _, _ => none
  | n + 1, k0, k1, x0, x1, x2, x3, x4, x5, x6, x7, x8, x9 =>
    GL67_14_0 A B (F105_0 A B N) (F108_0 A B N) (L67_14_0 A B N n) k0 k1 x0 x1 x2 x3 x4 x5 x6 x7 x8 x9
def GL67_4_0 {β : Type} (A : Pr) (B : Pk) (f89_0 : Int → Int → List R → (Bool → Option β) → Option β) (f105_0 : Int → Int → Int → Int → Int → Int → (Int → Int → Int → Int → Option β) → Option β) (f104_0 : Int → Int → Int → Int → (Bool → Option β) → Option β) (l67_4_0 : (Int → Int → Int → Int → Int → Int → List R → Int → Option β) → (Int → Int → Int → Int → Int → Int → List R → Option β) → Z14 β) (k0 : Int → Int → Int → Int → Int → Int → List R → Int → Option β) (k1 : Int → Int → Int → Int → Int → Int → List R → Option β) (x0 x1 x2 x3 x4 x5 : Int) (x6 x7 : List R) (x8 x9 : Int) : Option β :=
    match (A.cm .lss x9 x8) with
    | true => (match (A.ix x9 (A.len x7)) with
      | some xa => (match (B.okE [(Sh.i .i64), Sh.b, (Sh.i .i64), (Sh.i .i64)] true x7 xa) with
        | true => (f89_0 1 16 [(R.i .i64 (B.ci x7 xa 0))] (fun xb =>
          match (A.bn xb) with
            | true => (k0 x0 x1 x2 x3 x4 x5 x6 12)
            | false => (f89_0 1 4 [(R.i .i64 (B.ci x7 xa 2)), (R.i .i64 (B.ci x7 xa 3))] (fun xc =>
              match (A.bn xc) with
                | true => (k0 x0 x1 x2 x3 x4 x5 x6 12)
                | false => (f105_0 x0 x1 x2 x3 (B.ci x7 xa 2) (B.ci x7 xa 3) (fun xd xe xf xg =>
                  f104_0 xd xe xf xg (fun xh =>
                    match xh with
                      | true => (k0 x0 x1 x2 x3 x4 x5 x6 12)
                      | false => (l67_4_0 k0 k1 x0 x1 x2 x3 x4 x5 x6 x7 x8 (A.ar .add .i64 x9 1)))))))))
        | false => none)
      | none => none)
    | false => (k1 x0 x1 x2 x3 x4 x5 x6)
def L67_4_0 {β : Type} (A : Pr) (B : Pk) (N : Nat) : Nat → (Int → Int → Int → Int → Int → Int → List R → Int → Option β) → (Int → Int → Int → Int → Int → Int → List R → Option β) → Z14 β
  | 0, _, _, _, _, _, _, _, _, _, _, _, _ => none
  | n + 1, k0, k1, x0, x1, x2, x3, x4, x5, x6, x7, x8, x9 =>
    GL67_4_0 A B (F89_0 A B N) (F105_0 A B N) (F104_0 A B N) (L67_4_0 A B N n) k0 k1 x0 x1 x2 x3 x4 x5 x6 x7 x8 x9
def F67_0 {β : Type} (A : Pr) (B : Pk) (N : Nat) (x0 x1 x2 x3 x4 x5 : Int) (x6 : List R) (k0 : Int → Option β) : Option β :=
  G67_0 A B (F103_0 A B N) (F104_0 A B N) (F89_0 A B N) (F106_0 A B N) (F107_0 A B N) (L67_4_0 A B N N) (L67_14_0 A B N N) x0 x1 x2 x3 x4 x5 x6 k0
def G68_0 {β : Type} (A : Pr) (B : Pk) (f103_0 : Int → Int → Int → Int → (Bool → Option β) → Option β) (f104_0 : Int → Int → Int → Int → (Bool → Option β) → Option β) (f107_0 : Int → Int → (Int → Option β) → Option β) (f106_0 : Int → Int → (Int → Option β) → Option β) (l68_9_0 : (Int → Int → List R → Option β) → Z0 β) (x0 x1 x2 x3 x4 x5 : Int) (k0 : List R → Option β) : Option β :=
    f103_0 x0 x1 x2 x3 (fun x6 =>
    match (A.bn x6) with
      | true => (k0 [])
      | false => (f104_0 x0 x1 x2 x3 (fun x7 =>
        match x7 with
          | true => (k0 [])
          | false => (match (A.cm .lss x4 1) with
            | true => (k0 [])
            | false => (match (A.cm .lss x5 1) with
              | true => (k0 [])
              | false => (f107_0 x0 x4 (fun x8 =>
                f106_0 x2 x4 (fun x9 =>
                  f107_0 x1 x5 (fun xa =>
                    f106_0 x3 x5 (fun xb =>
                      match (A.cm .gtr (A.ar .mul .i64 (A.ar .sub .i64 x9 x8) (A.ar .sub .i64 xb xa)) 65536) with
                        | true => (k0 [])
                        | false => (l68_9_0 (fun xc xd xe =>
                          k0 xe) x4 x5 x0 x1 x2 x3 x8 x9 xb [] xa)))))))))))
def GL68_9_0 {β : Type} (A : Pr) (B : Pk) (l68_12_0 : (Z0 β) → Z1 β) (l68_9_0 : (Int → Int → List R → Option β) → Z0 β) (k0 : Int → Int → List R → Option β) (x0 x1 x2 x3 x4 x5 x6 x7 x8 : Int) (x9 : List R) (xa : Int) : Option β :=
    match (A.cm .lss xa x8) with
    | true => (l68_12_0 (fun xb xc xd xe xf xg xh xi xj xk xl =>
      l68_9_0 k0 xb xc xd xe xf xg xh xi xj xk (A.ar .add .i64 xl 1)) x0 x1 x2 x3 x4 x5 x6 x7 x8 x9 xa x6)
    | false => (k0 x0 x1 x9)
def GL68_12_0 {β : Type} (A : Pr) (B : Pk) (f109_0 : Int → Int → Int → Int → Int → Int → Int → Int → (Int → Int → Int → Int → Option β) → Option β) (l68_12_0 : (Z0 β) → Z1 β) (k0 : Z0 β) (x0 x1 x2 x3 x4 x5 x6 x7 x8 : Int) (x9 : List R) (xa xb : Int) : Option β :=
    match (A.cm .lss xb x7) with
    | true => (f109_0 x2 x3 x4 x5 (A.ar .mul .i64 xb x0) (A.ar .mul .i64 xa x1) (A.ar .mul .i64 (A.ar .add .i64 xb 1) x0) (A.ar .mul .i64 (A.ar .add .i64 xa 1) x1) (fun xc xd xe xf =>
      match (A.small (A.len (A.app x9 [(R.a [(R.i .i64 xc), (R.i .i64 xd), (R.i .i64 xe), (R.i .i64 xf)])])) 32) with
        | true => (l68_12_0 k0 x0 x1 x2 x3 x4 x5 x6 x7 x8 (A.app x9 [(R.a [(R.i .i64 xc), (R.i .i64 xd), (R.i .i64 xe), (R.i .i64 xf)])]) xa (A.ar .add .i64 xb 1))
        | false => none))
    | false => (k0 x0 x1 x2 x3 x4 x5 x6 x7 x8 x9 xa)
def L68_12_0 {β : Type} (A : Pr) (B : Pk) (N : Nat) : Nat → (Z0 β) → Z1 β
  | 0, _, _, _, _, _, _, _, _, _, _, _, _, _ => none
  | n + 1, k0, x0, x1, x2, x3, x4, x5, x6, x7, x8, x9, xa, xb =>
    GL68_12_0 A B (F109_0 A B N) (L68_12_0 A B N n) k0 x0 x1 x2 x3 x4 x5 x6 x7 x8 x9 xa xb
def L68_9_0 {β : Type} (A : Pr) (B : Pk) (N : Nat) : Nat → (Int → Int → List R → Option β) → Z0 β
  | 0, _, _, _, _, _, _, _, _, _, _, _, _ => none
  | n + 1, k0, x0, x1, x2, x3, x4, x5, x6, x7, x8, x9, xa =>
    GL68_9_0 A B (L68_12_0 A B N N) (L68_9_0 A B N n) k0 x0 x1 x2 x3 x4 x5 x6 x7 x8 x9 xa
def F68_0 {β : Type} (A : Pr) (B : Pk) (N : Nat) (x0 x1 x2 x3 x4 x5 : Int) (k0 : List R → Option β) : Option β :=
  G68_0 A B (F103_0 A B N) (F104_0 A B N) (F107_0 A B N) (F106_0 A B N) (L68_9_0 A B N N) x0 x1 x2 x3 x4 x5 k0
def G90_1 {β : Type} (A : Pr) (B : Pk) (f89_0 : Int → Int → List R → (Bool → Option β) → Option β) (l90_6t1_0 : (Z24 β) → (Z23 β) → Z25 β) (x0 x1 x2 x3 x4 x5 : Int) (x6 : List R) (x7 x8 x9 xa xb : Int) (xc : List R) (xd xe : Int) (xf xg xh xi xj xk xl xm : Bool) (xn : List R) (xo xp : Int) (k0 : Bool → Option β) : Option β :=
    f89_0 0 5 [(R.i .i64 x8)] (fun xq =>
    match (A.bn xq) with
      | true => (k0 false)
      | false => (f89_0 2 6 [(R.i .i64 xa), (R.i .i64 xb)] (fun xr =>
        match (A.bn xr) with
          | true => (k0 false)
          | false => (match (A.cm .neq (A.on (A.len xc)) 0) with
            | true => (match (A.cm .neq (A.on (A.len xc)) (A.ar .add .i64 x8 1)) with
              | true => (k0 false)
              | false => (l90_6t1_0 (fun xs xt xu xv xw xx xy xz x10 x11 x12 x13 x14 x15 x16 x17 x18 x19 x1a x1b x1c x1d x1e x1f x1g x1h x1i =>
                k0 x1i) (fun x1j x1k x1l x1m x1n x1o x1p x1q x1r x1s x1t x1u x1v x1w x1x x1y x1z x20 x21 x22 x23 x24 x25 x26 x27 x28 =>
                f89_0 1 16 [(R.i .i64 x1x)] (fun x29 =>
                  match (A.bn x29) with
                    | true => (k0 false)
                    | false => (match (A.cm .neq (A.on (A.len x26)) (A.ar .add .i64 (A.ar .mul .i64 3 x1r) 1)) with
                      | true => (k0 false)
                      | false => (f89_0 1 65536 x26 (fun x2a =>
                        match (A.bn x2a) with
                          | true => (k0 false)
                          | false => (f89_0 8 32 [(R.i .i64 x27)] (fun x2b =>
                            match (A.bn x2b) with
                              | true => (k0 false)
                              | false => (f89_0 0 30 [(R.i .i64 x28)] (fun x2c =>
                                match (A.bn x2c) with
                                  | true => (k0 false)
                                  | false => (match (A.cm .eql x1s 0) with
                                    | true => (k0 true)
                                    | false => (match (A.cm .geq (A.on (A.len x1p)) 3) with
                                      | true => (match (A.ix 0 (A.len x1p)) with
                                        | some x2d => (match (B.okE [(Sh.i .i64), Sh.b, (Sh.i .i64), (Sh.i .i64)] true x1p x2d) with
                                          | true => (match (A.ix 1 (A.len x1p)) with
                                            | some x2e => (match (B.okE [(Sh.i .i64), Sh.b, (Sh.i .i64), (Sh.i .i64)] true x1p x2e) with
                                              | true => (match (A.ba (A.cm .eql (B.ci x1p x2d 0) (B.ci x1p x2e 0)) (A.ba (A.be (B.cb x1p x2d 1) (B.cb x1p x2e 1)) (A.ba (A.cm .eql (B.ci x1p x2d 2) (B.ci x1p x2e 2)) (A.ba (A.cm .eql (B.ci x1p x2d 3) (B.ci x1p x2e 3)) true)))) with
                                                | true => (match (A.ix 0 (A.len x1p)) with
                                                  | some x2f => (match (B.okE [(Sh.i .i64), Sh.b, (Sh.i .i64), (Sh.i .i64)] true x1p x2f) with
                                                    | true => (match (A.ix 2 (A.len x1p)) with
                                                      | some x2g => (match (B.okE [(Sh.i .i64), Sh.b, (Sh.i .i64), (Sh.i .i64)] true x1p x2g) with
                                                        | true => (k0 (A.ba (A.cm .eql (B.ci x1p x2f 0) (B.ci x1p x2g 0)) (A.ba (A.be (B.cb x1p x2f 1) (B.cb x1p x2g 1)) (A.ba (A.cm .eql (B.ci x1p x2f 2) (B.ci x1p x2g 2)) (A.ba (A.cm .eql (B.ci x1p x2f 3) (B.ci x1p x2g 3)) true)))))
                                                        | false => none)
                                                      | none => none)
                                                    | false => none)
                                                  | none => none)
                                                | false => (k0 false))
                                              | false => none)
                                            | none => none)
                                          | false => none)
                                        | none => none)
                                      | false => (k0 false)))))))))))) x0 x1 x2 x3 x4 x5 x6 x7 x8 x9 xa xb xc xd xe xf xg xh xi xj xk xl xm xn xo xp xc (A.on (A.len xc)) 0))
            | false => (l90_6t1_0 (fun x2h x2i x2j x2k x2l x2m x2n x2o x2p x2q x2r x2s x2t x2u x2v x2w x2x x2y x2z x30 x31 x32 x33 x34 x35 x36 x37 =>
              k0 x37) (fun x38 x39 x3a x3b x3c x3d x3e x3f x3g x3h x3i x3j x3k x3l x3m x3n x3o x3p x3q x3r x3s x3t x3u x3v x3w x3x =>
              f89_0 1 16 [(R.i .i64 x3m)] (fun x3y =>
                match (A.bn x3y) with
                  | true => (k0 false)
                  | false => (match (A.cm .neq (A.on (A.len x3v)) (A.ar .add .i64 (A.ar .mul .i64 3 x3g) 1)) with
                    | true => (k0 false)
                    | false => (f89_0 1 65536 x3v (fun x3z =>
                      match (A.bn x3z) with
                        | true => (k0 false)
                        | false => (f89_0 8 32 [(R.i .i64 x3w)] (fun x40 =>
                          match (A.bn x40) with
                            | true => (k0 false)
                            | false => (f89_0 0 30 [(R.i .i64 x3x)] (fun x41 =>
                              match (A.bn x41) with
                                | true => (k0 false)
                                | false => (match (A.cm .eql x3h 0) with
                                  | true => (k0 true)
                                  | false => (match (A.cm .geq (A.on (A.len x3e)) 3) with
                                    | true => (match (A.ix 0 (A.len x3e)) with
                                      | some x42 => (match (B.okE [(Sh.i .i64), Sh.b, (Sh.i .i64), (Sh.i .i64)] true x3e x42) with
                                        | true => (match (A.ix 1 (A.len x3e)) with
                                          | some x43 => (match (B.okE [(Sh.i .i64), Sh.b, (Sh.i .i64), (Sh.i .i64)] true x3e x43) with
                                            | true => (match (A.ba (A.cm .eql (B.ci x3e x42 0) (B.ci x3e x43 0)) (A.ba (A.be (B.cb x3e x42 1) (B.cb x3e x43 1)) (A.ba (A.cm .eql (B.ci x3e x42 2) (B.ci x3e x43 2)) (A.ba (A.cm .eql (B.ci x3e x42 3) (B.ci x3e x43 3)) true)))) with
                                              | true => (match (A.ix 0 (A.len x3e)) with
                                                | some x44 => (match (B.okE [(Sh.i .i64), Sh.b, (Sh.i .i64), (Sh.i .i64)] true x3e x44) with
                                                  | true => (match (A.ix 2 (A.len x3e)) with
                                                    | some x45 => (match (B.okE [(Sh.i .i64), Sh.b, (Sh.i .i64), (Sh.i .i64)] true x3e x45) with
                                                      | true => (k0 (A.ba (A.cm .eql (B.ci x3e x44 0) (B.ci x3e x45 0)) (A.ba (A.be (B.cb x3e x44 1) (B.cb x3e x45 1)) (A.ba (A.cm .eql (B.ci x3e x44 2) (B.ci x3e x45 2)) (A.ba (A.cm .eql (B.ci x3e x44 3) (B.ci x3e x45 3)) true)))))
                                                      | false => none)
                                                    | none => none)
                                                  | false => none)
                                                | none => none)
                                              | false => (k0 false))
                                            | false => none)
                                          | none => none)
                                        | false => none)
                                      | none => none)
                                    | false => (k0 false)))))))))))) x0 x1 x2 x3 x4 x5 x6 x7 x8 x9 xa xb xc xd xe xf xg xh xi xj xk xl xm xn xo xp xc (A.on (A.len xc)) 0)))))
def GL90_6t1_0 {β : Type} (A : Pr) (B : Pk) (f89_0 : Int → Int → List R → (Bool → Option β) → Option β) (l90_6t1_0 : (Z24 β) → (Z23 β) → Z25 β) (k0 : Z24 β) (k1 : Z23 β) (x0 x1 x2 x3 x4 x5 : Int) (x6 : List R) (x7 x8 x9 xa xb : Int) (xc : List R) (xd xe : Int) (xf xg xh xi xj xk xl xm : Bool) (xn : List R) (xo xp : Int) (xq : List R) (xr xs : Int) : Option β :=
    match (A.cm .lss xs xr) with
    | true => (match (A.ix xs (A.len xq)) with
      | some xt => (match (B.okE [(Sh.i .i64), (Sh.i .i64)] true xq xt) with
        | true => (f89_0 (A.mn xs 1) 12 [(R.i .i64 (B.ci xq xt 0)), (R.i .i64 (B.ci xq xt 1))] (fun xu =>
          match (A.bn xu) with
            | true => (k0 x0 x1 x2 x3 x4 x5 x6 x7 x8 x9 xa xb xc xd xe xf xg xh xi xj xk xl xm xn xo xp false)
            | false => (l90_6t1_0 k0 k1 x0 x1 x2 x3 x4 x5 x6 x7 x8 x9 xa xb xc xd xe xf xg xh xi xj xk xl xm xn xo xp xq xr (A.ar .add .i64 xs 1))))
        | false => none)
      | none => none)
    | false => (k1 x0 x1 x2 x3 x4 x5 x6 x7 x8 x9 xa xb xc xd xe xf xg xh xi xj xk xl xm xn xo xp)
def L90_6t1_0 {β : Type} (A : Pr) (B : Pk) (N : Nat) : Nat → (Z24 β) → (Z23 β) → Z25 β
  | 0, _, _, _, _, _, _, _, _, _, _, _, _, _, _, _, _, _, _, _, _, _, _, _, _, _, _, _, _, _, _, _ => none
  | n + 1, k0, k1, x0, x1, x2, x3, x4, x5, x6, x7, x8, x9, xa, xb, xc, xd, xe, xf, xg, xh, xi, xj, xk, xl, xm, xn, xo, xp, xq, xr, xs =>
    GL90_6t1_0 A B (F89_0 A B N) (L90_6t1_0 A B N n) k0 k1 x0 x1 x2 x3 x4 x5 x6 x7 x8 x9 xa xb xc xd xe xf xg xh xi xj xk xl xm xn xo xp xq xr xs
def F90_1 {β : Type} (A : Pr) (B : Pk) (N : Nat) (x0 x1 x2 x3 x4 x5 : Int) (x6 : List R) (x7 x8 x9 xa xb : Int) (xc : List R) (xd xe : Int) (xf xg xh xi xj xk xl xm : Bool) (xn : List R) (xo xp : Int) (k0 : Bool → Option β) : Option β :=
  G90_1 A B (F89_0 A B N) (L90_6t1_0 A B N N) x0 x1 x2 x3 x4 x5 x6 x7 x8 x9 xa xb xc xd xe xf xg xh xi xj xk xl xm xn xo xp k0
def G46_1 {β : Type} (A : Pr) (B : Pk) (f67_0 : Int → Int → Int → Int → Int → Int → List R → (Int → Option β) → Option β) (f89_0 : Int → Int → List R → (Bool → Option β) → Option β) (f90_1 : Int → Int → Int → Int → Int → Int → List R → Int → Int → Int → Int → Int → List R → Int → Int → Bool → Bool → Bool → Bool → Bool → Bool → Bool → Bool → List R → Int → Int → (Bool → Option β) → Option β) (f68_0 : Int → Int → Int → Int → Int → Int → (List R → Option β) → Option β) (l46_9t1_0 : (Int → Option β) → (Option β) → Z25 β) (x0 x1 x2 x3 x4 x5 : Int) (x6 : List R) (x7 x8 x9 xa xb : Int) (xc : List R) (xd xe : Int) (xf xg xh xi xj xk xl xm : Bool) (xn : List R) (xo xp : Int) (k0 : Int → Option β) : Option β :=
    f67_0 x0 x1 x2 x3 x4 x5 x6 (fun xq =>
    match (A.cm .neq xq 0) with
      | true => (k0 xq)
      | false => (f89_0 1 3 [(R.i .i64 x7)] (fun xr =>
        match (A.bn xr) with
          | true => (k0 3)
          | false => (f89_0 0 2 [(R.i .i64 x9)] (fun xs =>
            match (A.bn xs) with
              | true => (k0 3)
              | false => (f89_0 1 5 [(R.i .i64 xd)] (fun xt =>
                match (A.bn xt) with
                  | true => (k0 3)
                  | false => (f90_1 x0 x1 x2 x3 x4 x5 x6 x7 x8 x9 xa xb xc xd xe xf xg xh xi xj xk xl xm xn xo xp (fun xu =>
                    match (A.bn xu) with
                      | true => (k0 13)
                      | false => (f68_0 x0 x1 x2 x3 x4 x5 (fun xv =>
                        l46_9t1_0 (fun xw =>
                          k0 xw) (k0 0) x0 x1 x2 x3 x4 x5 x6 x7 x8 x9 xa xb xc xd xe xf xg xh xi xj xk xl xm xn xo xp xv (A.on (A.len xv)) 0)))))))))))
def G91_1 {β : Type} (A : Pr) (B : Pk) (l91_3t1_0 : (Bool → Int → Option β) → (Int → Option β) → Z30 β) (x0 x1 x2 x3 x4 x5 : Int) (x6 : List R) (x7 x8 x9 xa xb : Int) (xc : List R) (xd xe : Int) (xf xg xh xi xj xk xl xm : Bool) (xn : List R) (xo xp xq xr xs xt : Int) (k0 : Bool → Option β) : Option β :=
    l91_3t1_0 (fun xu xv =>
    k0 xu) (fun xw =>
    k0 (A.cm .leq xw 65536)) x7 x8 x9 xa xb xc xd xe xf xg xh xi xj xk xl xm xn xo xp xq xr xs xt 0 x6 (A.on (A.len x6)) 0
def GL91_3t1_0 {β : Type} (A : Pr) (B : Pk) (f105_0 : Int → Int → Int → Int → Int → Int → (Int → Int → Int → Int → Option β) → Option β) (l91_7t1_0 : (Z29 β) → (Z30 β) → Z27 β) (l91_3t1_0 : (Bool → Int → Option β) → (Int → Option β) → Z30 β) (k0 : Bool → Int → Option β) (k1 : Int → Option β) (x0 x1 x2 x3 x4 : Int) (x5 : List R) (x6 x7 : Int) (x8 x9 xa xb xc xd xe xf : Bool) (xg : List R) (xh xi xj xk xl xm xn : Int) (xo : List R) (xp xq : Int) : Option β :=
    match (A.cm .lss xq xp) with
    | true => (match (A.ix xq (A.len xo)) with
      | some xr => (match (B.okE [(Sh.i .i64), Sh.b, (Sh.i .i64), (Sh.i .i64)] true xo xr) with
        | true => (f105_0 xj xk xl xm (B.ci xo xr 2) (B.ci xo xr 3) (fun xs xt xu xv =>
          l91_7t1_0 (fun xw xx xy xz x10 x11 x12 x13 x14 x15 x16 x17 x18 x19 x1a x1b x1c x1d x1e x1f x1g x1h x1i x1j x1k x1l x1m x1n =>
            k0 x1j x1k) (fun x1o x1p x1q x1r x1s x1t x1u x1v x1w x1x x1y x1z x20 x21 x22 x23 x24 x25 x26 x27 x28 x29 x2a x2b x2c x2d x2e =>
            l91_3t1_0 k0 k1 x1o x1p x1q x1r x1s x1t x1u x1v x1w x1x x1y x1z x20 x21 x22 x23 x24 x25 x26 x27 x28 x29 x2a x2b x2c x2d (A.ar .add .i64 x2e 1)) x0 x1 x2 x3 x4 x5 x6 x7 x8 x9 xa xb xc xd xe xf xg xh xi xj xk xl xm xn xs xt xu xv 0 xo xp xq))
        | false => none)
      | none => none)
    | false => (k1 xn)
def GL91_7t1_0 {β : Type} (A : Pr) (B : Pk) (f133_1 : Int → Int → Int → Int → Int → List R → Int → Int → Bool → Bool → Bool → Bool → Bool → Bool → Bool → Bool → List R → Int → Int → Int → (Int → Int → Option β) → Option β) (f135_0 : Int → Int → Int → Int → Int → Int → (Int → Int → Int → Int → Option β) → Option β) (f134_0 : Int → Int → Int → Int → Int → Int → (Int → Option β) → Option β) (f111_0 : Int → Int → (List R → Option β) → Option β) (l91_14t1_0 : (Z26 β) → (Z27 β) → Z28 β) (l91_7t1_0 : (Z29 β) → (Z30 β) → Z27 β) (k0 : Z29 β) (k1 : Z30 β) (x0 x1 x2 x3 x4 : Int) (x5 : List R) (x6 x7 : Int) (x8 x9 xa xb xc xd xe xf : Bool) (xg : List R) (xh xi xj xk xl xm xn xo xp xq xr xs : Int) (xt : List R) (xu xv : Int) : Option β :=
    match (A.cm .leq xs x1) with
    | true => (f133_1 x0 x1 x2 x3 x4 x5 x6 x7 x8 x9 xa xb xc xd xe xf xg xh xi xs (fun xw xx =>
      f135_0 xo xp xq xr x1 xs (fun xy xz x10 x11 =>
        f134_0 xy xz x10 x11 xw xx (fun x12 =>
          match (A.cm .gtr xs 0) with
            | true => (f111_0 x1 xs (fun x13 =>
              l91_14t1_0 (fun x14 x15 x16 x17 x18 x19 x1a x1b x1c x1d x1e x1f x1g x1h x1i x1j x1k x1l x1m x1n x1o x1p x1q x1r x1s x1t x1u x1v x1w x1x x1y x1z x20 =>
                k0 x14 x15 x16 x17 x18 x19 x1a x1b x1c x1d x1e x1f x1g x1h x1i x1j x1k x1l x1m x1n x1o x1p x1q x1r x1s x1y x1z x20) (fun x21 x22 x23 x24 x25 x26 x27 x28 x29 x2a x2b x2c x2d x2e x2f x2g x2h x2i x2j x2k x2l x2m x2n x2o x2p x2q x2r x2s x2t x2u x2v x2w =>
                l91_7t1_0 k0 k1 x21 x22 x23 x24 x25 x26 x27 x28 x29 x2a x2b x2c x2d x2e x2f x2g x2h x2i x2j x2k x2l x2m x2n x2o x2p x2q x2r x2s (A.ar .add .i64 x2t 1) x2u x2v x2w) x0 x1 x2 x3 x4 x5 x6 x7 x8 x9 xa xb xc xd xe xf xg xh xi xj xk xl xm (A.ar .add .i64 xn (A.ar .mul .i64 x12 x7)) xo xp xq xr xs (A.ar .sub .i64 xw 1) (A.ar .sub .i64 xx 1) xt xu xv x13 (A.on (A.len x13)) 0))
            | false => (f111_0 x1 xs (fun x2x =>
              l91_14t1_0 (fun x2y x2z x30 x31 x32 x33 x34 x35 x36 x37 x38 x39 x3a x3b x3c x3d x3e x3f x3g x3h x3i x3j x3k x3l x3m x3n x3o x3p x3q x3r x3s x3t x3u =>
                k0 x2y x2z x30 x31 x32 x33 x34 x35 x36 x37 x38 x39 x3a x3b x3c x3d x3e x3f x3g x3h x3i x3j x3k x3l x3m x3s x3t x3u) (fun x3v x3w x3x x3y x3z x40 x41 x42 x43 x44 x45 x46 x47 x48 x49 x4a x4b x4c x4d x4e x4f x4g x4h x4i x4j x4k x4l x4m x4n x4o x4p x4q =>
                l91_7t1_0 k0 k1 x3v x3w x3x x3y x3z x40 x41 x42 x43 x44 x45 x46 x47 x48 x49 x4a x4b x4c x4d x4e x4f x4g x4h x4i x4j x4k x4l x4m (A.ar .add .i64 x4n 1) x4o x4p x4q) x0 x1 x2 x3 x4 x5 x6 x7 x8 x9 xa xb xc xd xe xf xg xh xi xj xk xl xm (A.ar .add .i64 xn (A.ar .mul .i64 x12 x7)) xo xp xq xr xs xw xx xt xu xv x2x (A.on (A.len x2x)) 0))))))
    | false => (k1 x0 x1 x2 x3 x4 x5 x6 x7 x8 x9 xa xb xc xd xe xf xg xh xi xj xk xl xm xn xt xu xv)
def GL91_14t1_0 {β : Type} (A : Pr) (B : Pk) (f136_0 : Int → Int → Int → Int → Int → Int → (Int → Int → Int → Int → Option β) → Option β) (f134_0 : Int → Int → Int → Int → Int → Int → (Int → Option β) → Option β) (l91_14t1_0 : (Z26 β) → (Z27 β) → Z28 β) (k0 : Z26 β) (k1 : Z27 β) (x0 x1 x2 x3 x4 : Int) (x5 : List R) (x6 x7 : Int) (x8 x9 xa xb xc xd xe xf : Bool) (xg : List R) (xh xi xj xk xl xm xn xo xp xq xr xs xt xu : Int) (xv : List R) (xw xx : Int) (xy : List R) (xz x10 : Int) : Option β :=
    match (A.cm .lss x10 xz) with
    | true => (match (A.ix x10 (A.len xy)) with
      | some x11 => (match (B.okC [(Sh.i .i64)] xy x11 0) with
        | true => (f136_0 xo xp xq xr x1 (B.ci xy x11 0) (fun x12 x13 x14 x15 =>
          f134_0 x12 x13 x14 x15 (A.mn x3 xt) (A.mn x4 xu) (fun x16 =>
            match (A.cm .gtr x16 65536) with
              | true => (k0 x0 x1 x2 x3 x4 x5 x6 x7 x8 x9 xa xb xc xd xe xf xg xh xi xj xk xl xm false xn xo xp xq xr xs xv xw xx)
              | false => (l91_14t1_0 k0 k1 x0 x1 x2 x3 x4 x5 x6 x7 x8 x9 xa xb xc xd xe xf xg xh xi xj xk xl xm xn xo xp xq xr xs xt xu xv xw xx xy xz (A.ar .add .i64 x10 1)))))
        | false => none)
      | none => none)
    | false => (k1 x0 x1 x2 x3 x4 x5 x6 x7 x8 x9 xa xb xc xd xe xf xg xh xi xj xk xl xm xn xo xp xq xr xs xv xw xx)
def L91_14t1_0 {β : Type} (A : Pr) (B : Pk) (N : Nat) : Nat → (Z26 β) → (Z27 β) → Z28 β
  | 0, _, _, _, _, _, _, _, _, _, _, _, _, _, _, _, _, _, _, _, _, _, _, _, _, _, _, _, _, _, _, _, _, _, _, _, _, _, _, _ => none
  | n + 1, k0, k1, x0, x1, x2, x3, x4, x5, x6, x7, x8, x9, xa, xb, xc, xd, xe, xf, xg, xh, xi, xj, xk, xl, xm, xn, xo, xp, xq, xr, xs, xt, xu, xv, xw, xx, xy, xz, x10 =>
    GL91_14t1_0 A B (F136_0 A B N) (F134_0 A B N) (L91_14t1_0 A B N n) k0 k1 x0 x1 x2 x3 x4 x5 x6 x7 x8 x9 xa xb xc xd xe xf xg xh xi xj xk xl xm xn xo xp xq xr xs xt xu xv xw xx xy xz x10
def L91_7t1_0 {β : Type} (A : Pr) (B : Pk) (N : Nat) : Nat → (Z29 β) → (Z30 β) → Z27 β
  | 0, _, _, _, _, _, _, _, _, _, _, _, _, _, _, _, _, _, _, _, _, _, _, _, _, _, _, _, _, _, _, _, _, _, _ => none
  | n + 1, k0, k1, x0, x1, x2, x3, x4, x5, x6, x7, x8, x9, xa, xb, xc, xd, xe, xf, xg, xh, xi, xj, xk, xl, xm, xn, xo, xp, xq, xr, xs, xt, xu, xv =>
    GL91_7t1_0 A B (F133_1 A B N) (F135_0 A B N) (F134_0 A B N) (F111_0 A B N) (L91_14t1_0 A B N N) (L91_7t1_0 A B N n) k0 k1 x0 x1 x2 x3 x4 x5 x6 x7 x8 x9 xa xb xc xd xe xf xg xh xi xj xk xl xm xn xo xp xq xr xs xt xu xv
def L91_3t1_0 {β : Type} (A : Pr) (B : Pk) (N : Nat) : Nat → (Bool → Int → Option β) → (Int → Option β) → Z30 β
  | 0, _, _, _, _, _, _, _, _, _, _, _, _, _, _, _, _, _, _, _, _, _, _, _, _, _, _, _, _, _ => none
  | n + 1, k0, k1, x0, x1, x2, x3, x4, x5, x6, x7, x8, x9, xa, xb, xc, xd, xe, xf, xg, xh, xi, xj, xk, xl, xm, xn, xo, xp, xq =>
    GL91_3t1_0 A B (F105_0 A B N) (L91_7t1_0 A B N N) (L91_3t1_0 A B N n) k0 k1 x0 x1 x2 x3 x4 x5 x6 x7 x8 x9 xa xb xc xd xe xf xg xh xi xj xk xl xm xn xo xp xq
def F91_1 {β : Type} (A : Pr) (B : Pk) (N : Nat) (x0 x1 x2 x3 x4 x5 : Int) (x6 : List R) (x7 x8 x9 xa xb : Int) (xc : List R) (xd xe : Int) (xf xg xh xi xj xk xl xm : Bool) (xn : List R) (xo xp xq xr xs xt : Int) (k0 : Bool → Option β) : Option β :=
  G91_1 A B (L91_3t1_0 A B N N) x0 x1 x2 x3 x4 x5 x6 x7 x8 x9 xa xb xc xd xe xf xg xh xi xj xk xl xm xn xo xp xq xr xs xt k0
def GL46_9t1_0 {β : Type} (A : Pr) (B : Pk) (f91_1 : Int → Int → Int → Int → Int → Int → List R → Int → Int → Int → Int → Int → List R → Int → Int → Bool → Bool → Bool → Bool → Bool → Bool → Bool → Bool → List R → Int → Int → Int → Int → Int → Int → (Bool → Option β) → Option β) (l46_9t1_0 : (Int → Option β) → (Option β) → Z25 β) (k0 : Int → Option β) (k1 : Option β) (x0 x1 x2 x3 x4 x5 : Int) (x6 : List R) (x7 x8 x9 xa xb : Int) (xc : List R) (xd xe : Int) (xf xg xh xi xj xk xl xm : Bool) (xn : List R) (xo xp : Int) (xq : List R) (xr xs : Int) : Option β :=
    match (A.cm .lss xs xr) with
    | true => (match (A.ix xs (A.len xq)) with
      | some xt => (match (B.okC [(Sh.i .i64), (Sh.i .i64), (Sh.i .i64), (Sh.i .i64)] xq xt 0) with
        | true => (f91_1 x0 x1 x2 x3 x4 x5 x6 x7 x8 x9 xa xb xc xd xe xf xg xh xi xj xk xl xm xn xo xp (B.ci xq xt 0) (B.ci xq xt 1) (B.ci xq xt 2) (B.ci xq xt 3) (fun xu =>
          match (A.bn xu) with
            | true => (k0 5)
            | false => (l46_9t1_0 k0 k1 x0 x1 x2 x3 x4 x5 x6 x7 x8 x9 xa xb xc xd xe xf xg xh xi xj xk xl xm xn xo xp xq xr (A.ar .add .i64 xs 1))))
        | false => none)
      | none => none)
    | false => k1
def L46_9t1_0 {β : Type} (A : Pr) (B : Pk) (N : Nat) : Nat → (Int → Option β) → (Option β) → Z25 β
  | 0, _, _, _, _, _, _, _, _, _, _, _, _, _, _, _, _, _, _, _, _, _, _, _, _, _, _, _, _, _, _, _ => none
  | n + 1, k0, k1, x0, x1, x2, x3, x4, x5, x6, x7, x8, x9, xa, xb, xc, xd, xe, xf, xg, xh, xi, xj, xk, xl, xm, xn, xo, xp, xq, xr, xs =>
    GL46_9t1_0 A B (F91_1 A B N) (L46_9t1_0 A B N n) k0 k1 x0 x1 x2 x3 x4 x5 x6 x7 x8 x9 xa xb xc xd xe xf xg xh xi xj xk xl xm xn xo xp xq xr xs
def F46_1 {β : Type} (A : Pr) (B : Pk) (N : Nat) (x0 x1 x2 x3 x4 x5 : Int) (x6 : List R) (x7 x8 x9 xa xb : Int) (xc : List R) (xd xe : Int) (xf xg xh xi xj xk xl xm : Bool) (xn : List R) (xo xp : Int) (k0 : Int → Option β) : Option β :=
  G46_1 A B (F67_0 A B N) (F89_0 A B N) (F90_1 A B N) (F68_0 A B N) (L46_9t1_0 A B N N) x0 x1 x2 x3 x4 x5 x6 x7 x8 x9 xa xb xc xd xe xf xg xh xi xj xk xl xm xn xo xp k0
end Go.Proofs.YthlnfebecphcmaaGreat
