/-
  The functions' trees, printed by a program of ours.
-/
import Derived.Test.YtcapaihnachkhaaH
set_option linter.unusedVariables false
set_option maxRecDepth 100000
namespace Go.Proofs.Ytcapaihnachkhaa
open Go.Os
section
def F39_2 {β : Type} (A : Pr) (B : Pk) (N : Nat) (x9 : Int) (x10 : Int) (x11 : Int) (k0 : Int → Option β) : Option β :=
    k0 (A.mn (A.mx x9 x10) x11)

def M39_2 {β : Type} (A : Pr) (B : Pk) (N : Nat) (a : List T) : Option ((T → List (List T) → Option β) → Option β) :=
  match a with
  | [(T.r (R.i IntKind.i64 x9)), (T.r (R.i IntKind.i64 x10)), (T.r (R.i IntKind.i64 x11))] => some fun kk => F39_2 A B N x9 x10 x11 (fun y12 => kk (T.r (R.i IntKind.i64 y12)) [])
  | _ => none

theorem e39_2 {β : Type} (A : Pr) (B : Pk) (N : Nat) (x9 : Int) (x10 : Int) (x11 : Int) (kk : T → List (List T) → Option β) :
    bodyK (mkK Go.Proofs.Try.prog A B [] [] (Go.Proofs.Ytcapaihnachkhaa.Hn 39).pt []) Go.Proofs.Try.f39 [(T.r (R.i IntKind.i64 x9)), (T.r (R.i IntKind.i64 x10)), (T.r (R.i IntKind.i64 x11))] kk = F39_2 A B N x9 x10 x11 (fun y12 => kk (T.r (R.i IntKind.i64 y12)) []) := by kernel_rfl

theorem o39_2 {β : Type} (N : Nat) : Snd (β := β) Go.Proofs.Try.prog Go.Proofs.Ytcapaihnachkhaa.Hn 39 (M39_2 re rk N) := by
  intro a h kk r ha hr
  unfold M39_2 at ha
  split at ha
  · cases ha
    exact fn_ok (f := 39) (fn := Go.Proofs.Try.f39) (H := Go.Proofs.Ytcapaihnachkhaa.Hn) (by kernel_rfl) (show SndAll Go.Proofs.Try.prog Go.Proofs.Ytcapaihnachkhaa.Hn [] from trivial) (spots := []) (by kernel_rfl) trivial ((e39_2 re rk N _ _ _ kk).trans hr)
  · cases ha

def F40_3 {β : Type} (A : Pr) (B : Pk) (N : Nat) (x16 : Int) (x17 : Int) (k0 : Int → Option β) : Option β :=
    match (A.cm BinOp.eql x17 0) with
    | true => (match (A.cm BinOp.eql (A.mn x16 2) 0) with
      | true => (k0 0)
      | false => (match (A.cm BinOp.eql (A.mn x16 2) 1) with
        | true => (k0 1)
        | false => (match (A.cm BinOp.eql (A.mn x16 2) 2) with
          | true => (k0 2)
          | false => none)))
    | false => (match (A.cm BinOp.eql x17 1) with
      | true => (match (A.cm BinOp.eql (A.mn x16 2) 0) with
        | true => (k0 3)
        | false => (match (A.cm BinOp.eql (A.mn x16 2) 1) with
          | true => (k0 4)
          | false => (match (A.cm BinOp.eql (A.mn x16 2) 2) with
            | true => (k0 5)
            | false => none)))
      | false => (match (A.cm BinOp.eql x17 2) with
        | true => (match (A.cm BinOp.eql (A.mn x16 2) 0) with
          | true => (k0 6)
          | false => (match (A.cm BinOp.eql (A.mn x16 2) 1) with
            | true => (k0 7)
            | false => (match (A.cm BinOp.eql (A.mn x16 2) 2) with
              | true => (k0 7)
              | false => none)))
        | false => (match (A.cm BinOp.eql x17 3) with
          | true => (match (A.cm BinOp.eql (A.mn x16 2) 0) with
            | true => (k0 8)
            | false => (match (A.cm BinOp.eql (A.mn x16 2) 1) with
              | true => (k0 8)
              | false => (match (A.cm BinOp.eql (A.mn x16 2) 2) with
                | true => (k0 8)
                | false => none)))
          | false => (match (A.cm BinOp.eql x17 4) with
            | true => (match (A.cm BinOp.eql (A.mn x16 2) 0) with
              | true => (k0 8)
              | false => (match (A.cm BinOp.eql (A.mn x16 2) 1) with
                | true => (k0 8)
                | false => (match (A.cm BinOp.eql (A.mn x16 2) 2) with
                  | true => (k0 8)
                  | false => none)))
            | false => none))))

def M40_3 {β : Type} (A : Pr) (B : Pk) (N : Nat) (a : List T) : Option ((T → List (List T) → Option β) → Option β) :=
  match a with
  | [(T.r (R.i IntKind.i64 x16)), (T.r (R.i IntKind.i64 x17))] => some fun kk => F40_3 A B N x16 x17 (fun y18 => kk (T.r (R.i IntKind.i64 y18)) [])
  | _ => none

theorem e40_3 {β : Type} (A : Pr) (B : Pk) (N : Nat) (x16 : Int) (x17 : Int) (kk : T → List (List T) → Option β) :
    bodyK (mkK Go.Proofs.Try.prog A B [] [] (Go.Proofs.Ytcapaihnachkhaa.Hn 40).pt []) Go.Proofs.Try.f40 [(T.r (R.i IntKind.i64 x16)), (T.r (R.i IntKind.i64 x17))] kk = F40_3 A B N x16 x17 (fun y18 => kk (T.r (R.i IntKind.i64 y18)) []) := by kernel_rfl

theorem o40_3 {β : Type} (N : Nat) : Snd (β := β) Go.Proofs.Try.prog Go.Proofs.Ytcapaihnachkhaa.Hn 40 (M40_3 re rk N) := by
  intro a h kk r ha hr
  unfold M40_3 at ha
  split at ha
  · cases ha
    exact fn_ok (f := 40) (fn := Go.Proofs.Try.f40) (H := Go.Proofs.Ytcapaihnachkhaa.Hn) (by kernel_rfl) (show SndAll Go.Proofs.Try.prog Go.Proofs.Ytcapaihnachkhaa.Hn [] from trivial) (spots := []) (by kernel_rfl) trivial ((e40_3 re rk N _ _ kk).trans hr)
  · cases ha

def F41_4 {β : Type} (A : Pr) (B : Pk) (N : Nat) (x20 : Int) (x21 : Int) (x22 : Int) (k0 : Int → Option β) : Option β :=
    match (A.cm BinOp.eql x20 2) with
    | true => (k0 8)
    | false => (match (A.cm BinOp.eql x20 1) with
      | true => (match (A.cm BinOp.gtr x21 0) with
        | true => (k0 7)
        | false => (match (A.cm BinOp.eql x20 1) with
          | true => (k0 (A.ar BinOp.add IntKind.i64 5 (A.mn x22 1)))
          | false => (match (A.cm BinOp.gtr x21 0) with
            | true => (k0 (A.ar BinOp.add IntKind.i64 2 x21))
            | false => (k0 (A.mn x22 2)))))
      | false => (match (A.cm BinOp.eql x20 1) with
        | true => (k0 (A.ar BinOp.add IntKind.i64 5 (A.mn x22 1)))
        | false => (match (A.cm BinOp.gtr x21 0) with
          | true => (k0 (A.ar BinOp.add IntKind.i64 2 x21))
          | false => (k0 (A.mn x22 2)))))

def M41_4 {β : Type} (A : Pr) (B : Pk) (N : Nat) (a : List T) : Option ((T → List (List T) → Option β) → Option β) :=
  match a with
  | [(T.r (R.i IntKind.i64 x20)), (T.r (R.i IntKind.i64 x21)), (T.r (R.i IntKind.i64 x22))] => some fun kk => F41_4 A B N x20 x21 x22 (fun y23 => kk (T.r (R.i IntKind.i64 y23)) [])
  | _ => none

theorem e41_4 {β : Type} (A : Pr) (B : Pk) (N : Nat) (x20 : Int) (x21 : Int) (x22 : Int) (kk : T → List (List T) → Option β) :
    bodyK (mkK Go.Proofs.Try.prog A B [] [] (Go.Proofs.Ytcapaihnachkhaa.Hn 41).pt []) Go.Proofs.Try.f41 [(T.r (R.i IntKind.i64 x20)), (T.r (R.i IntKind.i64 x21)), (T.r (R.i IntKind.i64 x22))] kk = F41_4 A B N x20 x21 x22 (fun y23 => kk (T.r (R.i IntKind.i64 y23)) []) := by kernel_rfl

theorem o41_4 {β : Type} (N : Nat) : Snd (β := β) Go.Proofs.Try.prog Go.Proofs.Ytcapaihnachkhaa.Hn 41 (M41_4 re rk N) := by
  intro a h kk r ha hr
  unfold M41_4 at ha
  split at ha
  · cases ha
    exact fn_ok (f := 41) (fn := Go.Proofs.Try.f41) (H := Go.Proofs.Ytcapaihnachkhaa.Hn) (by kernel_rfl) (show SndAll Go.Proofs.Try.prog Go.Proofs.Ytcapaihnachkhaa.Hn [] from trivial) (spots := []) (by kernel_rfl) trivial ((e41_4 re rk N _ _ _ kk).trans hr)
  · cases ha

def F13_1 {β : Type} (A : Pr) (B : Pk) (N : Nat) (x5 : Int) (x6 : Int) (x7 : Int) (x8 : Int) (k0 : Int → Option β) : Option β :=
    F39_2 A B N x6 0 2 (fun y13 =>
    F39_2 A B N x7 0 2 (fun y14 =>
      F39_2 A B N x8 0 4 (fun y15 =>
        match (A.cm BinOp.eql x5 3) with
          | true => (F40_3 A B N (A.ar BinOp.add IntKind.i64 y13 y14) y15 (fun y19 =>
            k0 y19))
          | false => (match (A.cm BinOp.eql x5 1) with
            | true => (F41_4 A B N y14 y13 y15 (fun y24 =>
              k0 y24))
            | false => (F41_4 A B N y13 y14 y15 (fun y25 =>
              k0 y25))))))

def M13_1 {β : Type} (A : Pr) (B : Pk) (N : Nat) (a : List T) : Option ((T → List (List T) → Option β) → Option β) :=
  match a with
  | [(T.r (R.i IntKind.i64 x5)), (T.r (R.i IntKind.i64 x6)), (T.r (R.i IntKind.i64 x7)), (T.r (R.i IntKind.i64 x8))] => some fun kk => F13_1 A B N x5 x6 x7 x8 (fun y26 => kk (T.r (R.i IntKind.i64 y26)) [])
  | _ => none

theorem e13_1 {β : Type} (A : Pr) (B : Pk) (N : Nat) (x5 : Int) (x6 : Int) (x7 : Int) (x8 : Int) (kk : T → List (List T) → Option β) :
    bodyK (mkK Go.Proofs.Try.prog A B [(39, M39_2 A B N), (40, M40_3 A B N), (41, M41_4 A B N)] [] (Go.Proofs.Ytcapaihnachkhaa.Hn 13).pt []) Go.Proofs.Try.f13 [(T.r (R.i IntKind.i64 x5)), (T.r (R.i IntKind.i64 x6)), (T.r (R.i IntKind.i64 x7)), (T.r (R.i IntKind.i64 x8))] kk = F13_1 A B N x5 x6 x7 x8 (fun y26 => kk (T.r (R.i IntKind.i64 y26)) []) := by kernel_rfl

theorem o13_1 {β : Type} (N : Nat) : Snd (β := β) Go.Proofs.Try.prog Go.Proofs.Ytcapaihnachkhaa.Hn 13 (M13_1 re rk N) := by
  intro a h kk r ha hr
  unfold M13_1 at ha
  split at ha
  · cases ha
    exact fn_ok (f := 13) (fn := Go.Proofs.Try.f13) (H := Go.Proofs.Ytcapaihnachkhaa.Hn) (by kernel_rfl) (show SndAll Go.Proofs.Try.prog Go.Proofs.Ytcapaihnachkhaa.Hn [(39, M39_2 re rk N), (40, M40_3 re rk N), (41, M41_4 re rk N)] from ⟨o39_2 N, o40_3 N, o41_4 N, trivial⟩) (spots := []) (by kernel_rfl) trivial ((e13_1 re rk N _ _ _ _ kk).trans hr)
  · cases ha

def F42_6 {β : Type} (A : Pr) (B : Pk) (N : Nat) (x32 : Int) (x33 : Int) (x34 : Int) (k0 : Int → Option β) : Option β :=
    k0 (A.mn (A.mx x32 x33) x34)

def M42_6 {β : Type} (A : Pr) (B : Pk) (N : Nat) (a : List T) : Option ((T → List (List T) → Option β) → Option β) :=
  match a with
  | [(T.r (R.i IntKind.i64 x32)), (T.r (R.i IntKind.i64 x33)), (T.r (R.i IntKind.i64 x34))] => some fun kk => F42_6 A B N x32 x33 x34 (fun y35 => kk (T.r (R.i IntKind.i64 y35)) [])
  | _ => none

theorem e42_6 {β : Type} (A : Pr) (B : Pk) (N : Nat) (x32 : Int) (x33 : Int) (x34 : Int) (kk : T → List (List T) → Option β) :
    bodyK (mkK Go.Proofs.Try.prog A B [] [] (Go.Proofs.Ytcapaihnachkhaa.Hn 42).pt []) Go.Proofs.Try.f42 [(T.r (R.i IntKind.i64 x32)), (T.r (R.i IntKind.i64 x33)), (T.r (R.i IntKind.i64 x34))] kk = F42_6 A B N x32 x33 x34 (fun y35 => kk (T.r (R.i IntKind.i64 y35)) []) := by kernel_rfl

theorem o42_6 {β : Type} (N : Nat) : Snd (β := β) Go.Proofs.Try.prog Go.Proofs.Ytcapaihnachkhaa.Hn 42 (M42_6 re rk N) := by
  intro a h kk r ha hr
  unfold M42_6 at ha
  split at ha
  · cases ha
    exact fn_ok (f := 42) (fn := Go.Proofs.Try.f42) (H := Go.Proofs.Ytcapaihnachkhaa.Hn) (by kernel_rfl) (show SndAll Go.Proofs.Try.prog Go.Proofs.Ytcapaihnachkhaa.Hn [] from trivial) (spots := []) (by kernel_rfl) trivial ((e42_6 re rk N _ _ _ kk).trans hr)
  · cases ha

def F43_7 {β : Type} (A : Pr) (B : Pk) (N : Nat) (x39 : Int) (x40 : Int) (k0 : Int → Option β) : Option β :=
    match (A.cm BinOp.geq x40 3) with
    | true => (k0 8)
    | false => (match (A.cm BinOp.eql x40 2) with
      | true => (k0 (A.ar BinOp.add IntKind.i64 6 (A.mn x39 1)))
      | false => (k0 (A.ar BinOp.add IntKind.i64 (A.ar BinOp.mul IntKind.i64 3 x40) (A.mn x39 2))))

def M43_7 {β : Type} (A : Pr) (B : Pk) (N : Nat) (a : List T) : Option ((T → List (List T) → Option β) → Option β) :=
  match a with
  | [(T.r (R.i IntKind.i64 x39)), (T.r (R.i IntKind.i64 x40))] => some fun kk => F43_7 A B N x39 x40 (fun y41 => kk (T.r (R.i IntKind.i64 y41)) [])
  | _ => none

theorem e43_7 {β : Type} (A : Pr) (B : Pk) (N : Nat) (x39 : Int) (x40 : Int) (kk : T → List (List T) → Option β) :
    bodyK (mkK Go.Proofs.Try.prog A B [] [] (Go.Proofs.Ytcapaihnachkhaa.Hn 43).pt []) Go.Proofs.Try.f43 [(T.r (R.i IntKind.i64 x39)), (T.r (R.i IntKind.i64 x40))] kk = F43_7 A B N x39 x40 (fun y41 => kk (T.r (R.i IntKind.i64 y41)) []) := by kernel_rfl

theorem o43_7 {β : Type} (N : Nat) : Snd (β := β) Go.Proofs.Try.prog Go.Proofs.Ytcapaihnachkhaa.Hn 43 (M43_7 re rk N) := by
  intro a h kk r ha hr
  unfold M43_7 at ha
  split at ha
  · cases ha
    exact fn_ok (f := 43) (fn := Go.Proofs.Try.f43) (H := Go.Proofs.Ytcapaihnachkhaa.Hn) (by kernel_rfl) (show SndAll Go.Proofs.Try.prog Go.Proofs.Ytcapaihnachkhaa.Hn [] from trivial) (spots := []) (by kernel_rfl) trivial ((e43_7 re rk N _ _ kk).trans hr)
  · cases ha

def F44_8 {β : Type} (A : Pr) (B : Pk) (N : Nat) (x43 : Int) (x44 : Int) (x45 : Int) (k0 : Int → Option β) : Option β :=
    match (A.cm BinOp.eql x43 2) with
    | true => (k0 8)
    | false => (match (A.cm BinOp.eql x43 1) with
      | true => (match (A.cm BinOp.geq x44 1) with
        | true => (k0 7)
        | false => (match (A.cm BinOp.geq x45 1) with
          | true => (k0 6)
          | false => (k0 5)))
      | false => (match (A.cm BinOp.gtr x44 0) with
        | true => (k0 (A.ar BinOp.add IntKind.i64 2 x44))
        | false => (k0 (A.mn x45 2))))

def M44_8 {β : Type} (A : Pr) (B : Pk) (N : Nat) (a : List T) : Option ((T → List (List T) → Option β) → Option β) :=
  match a with
  | [(T.r (R.i IntKind.i64 x43)), (T.r (R.i IntKind.i64 x44)), (T.r (R.i IntKind.i64 x45))] => some fun kk => F44_8 A B N x43 x44 x45 (fun y46 => kk (T.r (R.i IntKind.i64 y46)) [])
  | _ => none

theorem e44_8 {β : Type} (A : Pr) (B : Pk) (N : Nat) (x43 : Int) (x44 : Int) (x45 : Int) (kk : T → List (List T) → Option β) :
    bodyK (mkK Go.Proofs.Try.prog A B [] [] (Go.Proofs.Ytcapaihnachkhaa.Hn 44).pt []) Go.Proofs.Try.f44 [(T.r (R.i IntKind.i64 x43)), (T.r (R.i IntKind.i64 x44)), (T.r (R.i IntKind.i64 x45))] kk = F44_8 A B N x43 x44 x45 (fun y46 => kk (T.r (R.i IntKind.i64 y46)) []) := by kernel_rfl

theorem o44_8 {β : Type} (N : Nat) : Snd (β := β) Go.Proofs.Try.prog Go.Proofs.Ytcapaihnachkhaa.Hn 44 (M44_8 re rk N) := by
  intro a h kk r ha hr
  unfold M44_8 at ha
  split at ha
  · cases ha
    exact fn_ok (f := 44) (fn := Go.Proofs.Try.f44) (H := Go.Proofs.Ytcapaihnachkhaa.Hn) (by kernel_rfl) (show SndAll Go.Proofs.Try.prog Go.Proofs.Ytcapaihnachkhaa.Hn [] from trivial) (spots := []) (by kernel_rfl) trivial ((e44_8 re rk N _ _ _ kk).trans hr)
  · cases ha

def F14_5 {β : Type} (A : Pr) (B : Pk) (N : Nat) (x28 : Int) (x29 : Int) (x30 : Int) (x31 : Int) (k0 : Int → Option β) : Option β :=
    F42_6 A B N x29 0 2 (fun y36 =>
    F42_6 A B N x30 0 2 (fun y37 =>
      F42_6 A B N x31 0 4 (fun y38 =>
        match (A.cm BinOp.eql x28 3) with
          | true => (F43_7 A B N (A.ar BinOp.add IntKind.i64 y36 y37) y38 (fun y42 =>
            k0 y42))
          | false => (match (A.cm BinOp.eql x28 1) with
            | true => (F44_8 A B N y37 y36 y38 (fun y47 =>
              k0 y47))
            | false => (F44_8 A B N y36 y37 y38 (fun y48 =>
              k0 y48))))))

def M14_5 {β : Type} (A : Pr) (B : Pk) (N : Nat) (a : List T) : Option ((T → List (List T) → Option β) → Option β) :=
  match a with
  | [(T.r (R.i IntKind.i64 x28)), (T.r (R.i IntKind.i64 x29)), (T.r (R.i IntKind.i64 x30)), (T.r (R.i IntKind.i64 x31))] => some fun kk => F14_5 A B N x28 x29 x30 x31 (fun y49 => kk (T.r (R.i IntKind.i64 y49)) [])
  | _ => none

theorem e14_5 {β : Type} (A : Pr) (B : Pk) (N : Nat) (x28 : Int) (x29 : Int) (x30 : Int) (x31 : Int) (kk : T → List (List T) → Option β) :
    bodyK (mkK Go.Proofs.Try.prog A B [(42, M42_6 A B N), (43, M43_7 A B N), (44, M44_8 A B N)] [] (Go.Proofs.Ytcapaihnachkhaa.Hn 14).pt []) Go.Proofs.Try.f14 [(T.r (R.i IntKind.i64 x28)), (T.r (R.i IntKind.i64 x29)), (T.r (R.i IntKind.i64 x30)), (T.r (R.i IntKind.i64 x31))] kk = F14_5 A B N x28 x29 x30 x31 (fun y49 => kk (T.r (R.i IntKind.i64 y49)) []) := by kernel_rfl

theorem o14_5 {β : Type} (N : Nat) : Snd (β := β) Go.Proofs.Try.prog Go.Proofs.Ytcapaihnachkhaa.Hn 14 (M14_5 re rk N) := by
  intro a h kk r ha hr
  unfold M14_5 at ha
  split at ha
  · cases ha
    exact fn_ok (f := 14) (fn := Go.Proofs.Try.f14) (H := Go.Proofs.Ytcapaihnachkhaa.Hn) (by kernel_rfl) (show SndAll Go.Proofs.Try.prog Go.Proofs.Ytcapaihnachkhaa.Hn [(42, M42_6 re rk N), (43, M43_7 re rk N), (44, M44_8 re rk N)] from ⟨o42_6 N, o43_7 N, o44_8 N, trivial⟩) (spots := []) (by kernel_rfl) trivial ((e14_5 re rk N _ _ _ _ kk).trans hr)
  · cases ha

def M15_9 {β : Type} (A : Pr) (B : Pk) (N : Nat) (a : List T) : Option ((T → List (List T) → Option β) → Option β) :=
  match a with
  | [] => some fun kk => kk (T.r (R.b true)) []
  | _ => none

theorem r15_9 : runF Go.Proofs.Try.prog re Go.Proofs.Ytcapaihnachkhaa.Hn 40 15 [] = some (T.r (R.b true), []) := by kernel_rfl

theorem o15_9 {β : Type} (N : Nat) : Snd (β := β) Go.Proofs.Try.prog Go.Proofs.Ytcapaihnachkhaa.Hn 15 (M15_9 re rk N) := by
  refine closed_ok r15_9 fun a h ha => ?_
  unfold M15_9 at ha
  split at ha
  · cases ha; exact ⟨rfl, rfl⟩
  · cases ha

def F3_0 {β : Type} (A : Pr) (B : Pk) (N : Nat) (x1 : Int) (x2 : Int) (x3 : Int) (x4 : Int) (k0 : Bool → Option β) : Option β :=
    F13_1 A B N x1 x2 x3 x4 (fun y27 =>
    F14_5 A B N x1 x2 x3 x4 (fun y50 =>
      match (A.cm BinOp.eql y27 y50) with
        | true => (k0 Bool.true)
        | false => (k0 Bool.false)))

def M3_0 {β : Type} (A : Pr) (B : Pk) (N : Nat) (a : List T) : Option ((T → List (List T) → Option β) → Option β) :=
  match a with
  | [(T.r (R.i IntKind.i64 x1)), (T.r (R.a [(R.i IntKind.i64 x2), (R.i IntKind.i64 x3), (R.i IntKind.i64 x4)]))] => some fun kk => F3_0 A B N x1 x2 x3 x4 (fun y51 => kk (T.r (R.b y51)) [])
  | _ => none

theorem e3_0 {β : Type} (A : Pr) (B : Pk) (N : Nat) (x1 : Int) (x2 : Int) (x3 : Int) (x4 : Int) (kk : T → List (List T) → Option β) :
    bodyK (mkK Go.Proofs.Try.prog A B [(13, M13_1 A B N), (14, M14_5 A B N), (15, M15_9 A B N)] [] (Go.Proofs.Ytcapaihnachkhaa.Hn 3).pt []) Go.Proofs.Try.f3 [(T.r (R.i IntKind.i64 x1)), (T.r (R.a [(R.i IntKind.i64 x2), (R.i IntKind.i64 x3), (R.i IntKind.i64 x4)]))] kk = F3_0 A B N x1 x2 x3 x4 (fun y51 => kk (T.r (R.b y51)) []) := by kernel_rfl

theorem o3_0 {β : Type} (N : Nat) : Snd (β := β) Go.Proofs.Try.prog Go.Proofs.Ytcapaihnachkhaa.Hn 3 (M3_0 re rk N) := by
  intro a h kk r ha hr
  unfold M3_0 at ha
  split at ha
  · cases ha
    exact fn_ok (f := 3) (fn := Go.Proofs.Try.f3) (H := Go.Proofs.Ytcapaihnachkhaa.Hn) (by kernel_rfl) (show SndAll Go.Proofs.Try.prog Go.Proofs.Ytcapaihnachkhaa.Hn [(13, M13_1 re rk N), (14, M14_5 re rk N), (15, M15_9 re rk N)] from ⟨o13_1 N, o14_5 N, o15_9 N, trivial⟩) (spots := []) (by kernel_rfl) trivial ((e3_0 re rk N _ _ _ _ kk).trans hr)
  · cases ha

def F16_11 {β : Type} (A : Pr) (B : Pk) (N : Nat) (x54 : Int) (x55 : Int) (k0 : Int → Int → Option β) : Option β :=
    F39_2 A B N x54 (-1) 1 (fun y56 =>
    F39_2 A B N x55 (-1) 1 (fun y57 =>
      match (A.cm BinOp.lss y56 0) with
        | true => (match (A.cm BinOp.eql (A.ar BinOp.sub IntKind.i64 0 y56) 0) with
          | true => (match (A.cm BinOp.eql (A.ar BinOp.add IntKind.i64 (A.ar BinOp.sub IntKind.i64 0 y57) 1) 0) with
            | true => (k0 0 1)
            | false => (match (A.cm BinOp.eql (A.ar BinOp.add IntKind.i64 (A.ar BinOp.sub IntKind.i64 0 y57) 1) 1) with
              | true => (k0 9 1)
              | false => (match (A.cm BinOp.eql (A.ar BinOp.add IntKind.i64 (A.ar BinOp.sub IntKind.i64 0 y57) 1) 2) with
                | true => (k0 10 1)
                | false => none)))
          | false => (match (A.cm BinOp.eql (A.ar BinOp.sub IntKind.i64 0 y56) 1) with
            | true => (match (A.cm BinOp.eql (A.ar BinOp.add IntKind.i64 (A.ar BinOp.sub IntKind.i64 0 y57) 1) 0) with
              | true => (k0 11 1)
              | false => (match (A.cm BinOp.eql (A.ar BinOp.add IntKind.i64 (A.ar BinOp.sub IntKind.i64 0 y57) 1) 1) with
                | true => (k0 12 1)
                | false => (match (A.cm BinOp.eql (A.ar BinOp.add IntKind.i64 (A.ar BinOp.sub IntKind.i64 0 y57) 1) 2) with
                  | true => (k0 13 1)
                  | false => none)))
            | false => none))
        | false => (match (A.cm BinOp.eql y56 0) with
          | true => (match (A.cm BinOp.lss y57 0) with
            | true => (match (A.cm BinOp.eql (A.ar BinOp.sub IntKind.i64 0 y56) 0) with
              | true => (match (A.cm BinOp.eql (A.ar BinOp.add IntKind.i64 (A.ar BinOp.sub IntKind.i64 0 y57) 1) 0) with
                | true => (k0 0 1)
                | false => (match (A.cm BinOp.eql (A.ar BinOp.add IntKind.i64 (A.ar BinOp.sub IntKind.i64 0 y57) 1) 1) with
                  | true => (k0 9 1)
                  | false => (match (A.cm BinOp.eql (A.ar BinOp.add IntKind.i64 (A.ar BinOp.sub IntKind.i64 0 y57) 1) 2) with
                    | true => (k0 10 1)
                    | false => none)))
              | false => (match (A.cm BinOp.eql (A.ar BinOp.sub IntKind.i64 0 y56) 1) with
                | true => (match (A.cm BinOp.eql (A.ar BinOp.add IntKind.i64 (A.ar BinOp.sub IntKind.i64 0 y57) 1) 0) with
                  | true => (k0 11 1)
                  | false => (match (A.cm BinOp.eql (A.ar BinOp.add IntKind.i64 (A.ar BinOp.sub IntKind.i64 0 y57) 1) 1) with
                    | true => (k0 12 1)
                    | false => (match (A.cm BinOp.eql (A.ar BinOp.add IntKind.i64 (A.ar BinOp.sub IntKind.i64 0 y57) 1) 2) with
                      | true => (k0 13 1)
                      | false => none)))
                | false => none))
            | false => (match (A.cm BinOp.eql y56 0) with
              | true => (match (A.cm BinOp.eql (A.ar BinOp.add IntKind.i64 y57 1) 0) with
                | true => (k0 0 0)
                | false => (match (A.cm BinOp.eql (A.ar BinOp.add IntKind.i64 y57 1) 1) with
                  | true => (k0 9 0)
                  | false => (match (A.cm BinOp.eql (A.ar BinOp.add IntKind.i64 y57 1) 2) with
                    | true => (k0 10 0)
                    | false => none)))
              | false => (match (A.cm BinOp.eql y56 1) with
                | true => (match (A.cm BinOp.eql (A.ar BinOp.add IntKind.i64 y57 1) 0) with
                  | true => (k0 11 0)
                  | false => (match (A.cm BinOp.eql (A.ar BinOp.add IntKind.i64 y57 1) 1) with
                    | true => (k0 12 0)
                    | false => (match (A.cm BinOp.eql (A.ar BinOp.add IntKind.i64 y57 1) 2) with
                      | true => (k0 13 0)
                      | false => none)))
                | false => none)))
          | false => (match (A.cm BinOp.eql y56 0) with
            | true => (match (A.cm BinOp.eql (A.ar BinOp.add IntKind.i64 y57 1) 0) with
              | true => (k0 0 0)
              | false => (match (A.cm BinOp.eql (A.ar BinOp.add IntKind.i64 y57 1) 1) with
                | true => (k0 9 0)
                | false => (match (A.cm BinOp.eql (A.ar BinOp.add IntKind.i64 y57 1) 2) with
                  | true => (k0 10 0)
                  | false => none)))
            | false => (match (A.cm BinOp.eql y56 1) with
              | true => (match (A.cm BinOp.eql (A.ar BinOp.add IntKind.i64 y57 1) 0) with
                | true => (k0 11 0)
                | false => (match (A.cm BinOp.eql (A.ar BinOp.add IntKind.i64 y57 1) 1) with
                  | true => (k0 12 0)
                  | false => (match (A.cm BinOp.eql (A.ar BinOp.add IntKind.i64 y57 1) 2) with
                    | true => (k0 13 0)
                    | false => none)))
              | false => none)))))

def M16_11 {β : Type} (A : Pr) (B : Pk) (N : Nat) (a : List T) : Option ((T → List (List T) → Option β) → Option β) :=
  match a with
  | [(T.r (R.i IntKind.i64 x54)), (T.r (R.i IntKind.i64 x55))] => some fun kk => F16_11 A B N x54 x55 (fun y58 y59 => kk (T.tp Bool.true [(T.r (R.i IntKind.i64 y58)), (T.r (R.i IntKind.i64 y59))]) [])
  | _ => none

theorem e16_11 {β : Type} (A : Pr) (B : Pk) (N : Nat) (x54 : Int) (x55 : Int) (kk : T → List (List T) → Option β) :
    bodyK (mkK Go.Proofs.Try.prog A B [(39, M39_2 A B N)] [] (Go.Proofs.Ytcapaihnachkhaa.Hn 16).pt []) Go.Proofs.Try.f16 [(T.r (R.i IntKind.i64 x54)), (T.r (R.i IntKind.i64 x55))] kk = F16_11 A B N x54 x55 (fun y58 y59 => kk (T.tp Bool.true [(T.r (R.i IntKind.i64 y58)), (T.r (R.i IntKind.i64 y59))]) []) := by kernel_rfl

theorem o16_11 {β : Type} (N : Nat) : Snd (β := β) Go.Proofs.Try.prog Go.Proofs.Ytcapaihnachkhaa.Hn 16 (M16_11 re rk N) := by
  intro a h kk r ha hr
  unfold M16_11 at ha
  split at ha
  · cases ha
    exact fn_ok (f := 16) (fn := Go.Proofs.Try.f16) (H := Go.Proofs.Ytcapaihnachkhaa.Hn) (by kernel_rfl) (show SndAll Go.Proofs.Try.prog Go.Proofs.Ytcapaihnachkhaa.Hn [(39, M39_2 re rk N)] from ⟨o39_2 N, trivial⟩) (spots := []) (by kernel_rfl) trivial ((e16_11 re rk N _ _ kk).trans hr)
  · cases ha

def F17_12 {β : Type} (A : Pr) (B : Pk) (N : Nat) : Nat → Int → Int → (Int → Int → Option β) → Option β
  | 0, _, _, _ => none
  | n + 1, x62, x63, k0 =>
    F42_6 A B N x62 (-1) 1 (fun y66 =>
    F42_6 A B N x63 (-1) 1 (fun y67 =>
      match (A.cm BinOp.lss y66 0) with
        | true => (F17_12 A B N n (A.ar BinOp.sub IntKind.i64 0 y66) (A.ar BinOp.sub IntKind.i64 0 y67) (fun y68 y69 =>
          k0 y68 1))
        | false => (match (A.cm BinOp.eql y66 0) with
          | true => (match (A.cm BinOp.lss y67 0) with
            | true => (F17_12 A B N n (A.ar BinOp.sub IntKind.i64 0 y66) (A.ar BinOp.sub IntKind.i64 0 y67) (fun y70 y71 =>
              k0 y70 1))
            | false => (k0 (A.ar BinOp.add IntKind.i64 (A.ar BinOp.add IntKind.i64 9 (A.ar BinOp.mul IntKind.i64 3 y66)) y67) 0))
          | false => (k0 (A.ar BinOp.add IntKind.i64 (A.ar BinOp.add IntKind.i64 9 (A.ar BinOp.mul IntKind.i64 3 y66)) y67) 0))))

def M17_12 {β : Type} (A : Pr) (B : Pk) (N : Nat) (n : Nat) (a : List T) : Option ((T → List (List T) → Option β) → Option β) :=
  match a with
  | [(T.r (R.i IntKind.i64 x62)), (T.r (R.i IntKind.i64 x63))] => some fun kk => F17_12 A B N n x62 x63 (fun y72 y73 => kk (T.tp Bool.true [(T.r (R.i IntKind.i64 y72)), (T.r (R.i IntKind.i64 y73))]) [])
  | _ => none

theorem e17_12 {β : Type} (A : Pr) (B : Pk) (N : Nat) (n : Nat) (x62 : Int) (x63 : Int) (kk : T → List (List T) → Option β) :
    bodyK (mkK Go.Proofs.Try.prog A B [(42, M42_6 A B N), (17, M17_12 A B N n)] [] (Go.Proofs.Ytcapaihnachkhaa.Hn 17).pt []) Go.Proofs.Try.f17 [(T.r (R.i IntKind.i64 x62)), (T.r (R.i IntKind.i64 x63))] kk = F17_12 A B N (n + 1) x62 x63 (fun y72 y73 => kk (T.tp Bool.true [(T.r (R.i IntKind.i64 y72)), (T.r (R.i IntKind.i64 y73))]) []) := by kernel_rfl

theorem o17_12 {β : Type} (N : Nat) : ∀ n, Snd (β := β) Go.Proofs.Try.prog Go.Proofs.Ytcapaihnachkhaa.Hn 17 (M17_12 re rk N n)
  | 0 => by
    intro a h kk r ha hr
    unfold M17_12 at ha
    split at ha
    · cases ha; cases hr
    · cases ha
  | n + 1 => by
    have ih := o17_12 (β := β) N n
    intro a h kk r ha hr
    unfold M17_12 at ha
    split at ha
    · cases ha
      exact fn_ok (f := 17) (fn := Go.Proofs.Try.f17) (H := Go.Proofs.Ytcapaihnachkhaa.Hn) (by kernel_rfl) (show SndAll Go.Proofs.Try.prog Go.Proofs.Ytcapaihnachkhaa.Hn [(42, M42_6 re rk N), (17, M17_12 re rk N n)] from ⟨o42_6 N, ih, trivial⟩) (spots := []) (by kernel_rfl) trivial ((e17_12 re rk N n _ _ kk).trans hr)
    · cases ha

def F4_10 {β : Type} (A : Pr) (B : Pk) (N : Nat) (x52 : Int) (x53 : Int) (k0 : Bool → Option β) : Option β :=
    F16_11 A B N x52 x53 (fun y60 y61 =>
    F17_12 A B N N x52 x53 (fun y74 y75 =>
      match (A.cm BinOp.eql y60 y74) with
        | true => (match (A.cm BinOp.eql y61 y75) with
          | true => (k0 Bool.true)
          | false => (k0 Bool.false))
        | false => (k0 Bool.false)))

def M4_10 {β : Type} (A : Pr) (B : Pk) (N : Nat) (a : List T) : Option ((T → List (List T) → Option β) → Option β) :=
  match a with
  | [(T.r (R.i IntKind.i64 x52)), (T.r (R.i IntKind.i64 x53))] => some fun kk => F4_10 A B N x52 x53 (fun y76 => kk (T.r (R.b y76)) [])
  | _ => none

theorem e4_10 {β : Type} (A : Pr) (B : Pk) (N : Nat) (x52 : Int) (x53 : Int) (kk : T → List (List T) → Option β) :
    bodyK (mkK Go.Proofs.Try.prog A B [(16, M16_11 A B N), (17, M17_12 A B N N), (15, M15_9 A B N)] [] (Go.Proofs.Ytcapaihnachkhaa.Hn 4).pt []) Go.Proofs.Try.f4 [(T.r (R.i IntKind.i64 x52)), (T.r (R.i IntKind.i64 x53))] kk = F4_10 A B N x52 x53 (fun y76 => kk (T.r (R.b y76)) []) := by kernel_rfl

theorem o4_10 {β : Type} (N : Nat) : Snd (β := β) Go.Proofs.Try.prog Go.Proofs.Ytcapaihnachkhaa.Hn 4 (M4_10 re rk N) := by
  intro a h kk r ha hr
  unfold M4_10 at ha
  split at ha
  · cases ha
    exact fn_ok (f := 4) (fn := Go.Proofs.Try.f4) (H := Go.Proofs.Ytcapaihnachkhaa.Hn) (by kernel_rfl) (show SndAll Go.Proofs.Try.prog Go.Proofs.Ytcapaihnachkhaa.Hn [(16, M16_11 re rk N), (17, M17_12 re rk N N), (15, M15_9 re rk N)] from ⟨o16_11 N, o17_12 N N, o15_9 N, trivial⟩) (spots := []) (by kernel_rfl) trivial ((e4_10 re rk N _ _ kk).trans hr)
  · cases ha

def F18_14 {β : Type} (A : Pr) (B : Pk) (N : Nat) (x81 : Bool) (x82 : Bool) (k0 : Int → Option β) : Option β :=
    match (A.bn x81) with
    | true => (k0 16)
    | false => (match x82 with
      | true => (k0 15)
      | false => (k0 14))

def M18_14 {β : Type} (A : Pr) (B : Pk) (N : Nat) (a : List T) : Option ((T → List (List T) → Option β) → Option β) :=
  match a with
  | [(T.r (R.b x81)), (T.r (R.b x82))] => some fun kk => F18_14 A B N x81 x82 (fun y83 => kk (T.r (R.i IntKind.i64 y83)) [])
  | _ => none

theorem e18_14 {β : Type} (A : Pr) (B : Pk) (N : Nat) (x81 : Bool) (x82 : Bool) (kk : T → List (List T) → Option β) :
    bodyK (mkK Go.Proofs.Try.prog A B [] [] (Go.Proofs.Ytcapaihnachkhaa.Hn 18).pt []) Go.Proofs.Try.f18 [(T.r (R.b x81)), (T.r (R.b x82))] kk = F18_14 A B N x81 x82 (fun y83 => kk (T.r (R.i IntKind.i64 y83)) []) := by kernel_rfl

theorem o18_14 {β : Type} (N : Nat) : Snd (β := β) Go.Proofs.Try.prog Go.Proofs.Ytcapaihnachkhaa.Hn 18 (M18_14 re rk N) := by
  intro a h kk r ha hr
  unfold M18_14 at ha
  split at ha
  · cases ha
    exact fn_ok (f := 18) (fn := Go.Proofs.Try.f18) (H := Go.Proofs.Ytcapaihnachkhaa.Hn) (by kernel_rfl) (show SndAll Go.Proofs.Try.prog Go.Proofs.Ytcapaihnachkhaa.Hn [] from trivial) (spots := []) (by kernel_rfl) trivial ((e18_14 re rk N _ _ kk).trans hr)
  · cases ha

def F19_15 {β : Type} (A : Pr) (B : Pk) (N : Nat) (x85 : Bool) (x86 : Bool) (k0 : Int → Option β) : Option β :=
    match (A.bn x85) with
    | true => (k0 16)
    | false => (match x86 with
      | true => (k0 15)
      | false => (k0 14))

def M19_15 {β : Type} (A : Pr) (B : Pk) (N : Nat) (a : List T) : Option ((T → List (List T) → Option β) → Option β) :=
  match a with
  | [(T.r (R.b x85)), (T.r (R.b x86))] => some fun kk => F19_15 A B N x85 x86 (fun y87 => kk (T.r (R.i IntKind.i64 y87)) [])
  | _ => none

theorem e19_15 {β : Type} (A : Pr) (B : Pk) (N : Nat) (x85 : Bool) (x86 : Bool) (kk : T → List (List T) → Option β) :
    bodyK (mkK Go.Proofs.Try.prog A B [] [] (Go.Proofs.Ytcapaihnachkhaa.Hn 19).pt []) Go.Proofs.Try.f19 [(T.r (R.b x85)), (T.r (R.b x86))] kk = F19_15 A B N x85 x86 (fun y87 => kk (T.r (R.i IntKind.i64 y87)) []) := by kernel_rfl

theorem o19_15 {β : Type} (N : Nat) : Snd (β := β) Go.Proofs.Try.prog Go.Proofs.Ytcapaihnachkhaa.Hn 19 (M19_15 re rk N) := by
  intro a h kk r ha hr
  unfold M19_15 at ha
  split at ha
  · cases ha
    exact fn_ok (f := 19) (fn := Go.Proofs.Try.f19) (H := Go.Proofs.Ytcapaihnachkhaa.Hn) (by kernel_rfl) (show SndAll Go.Proofs.Try.prog Go.Proofs.Ytcapaihnachkhaa.Hn [] from trivial) (spots := []) (by kernel_rfl) trivial ((e19_15 re rk N _ _ kk).trans hr)
  · cases ha

def F20_16 {β : Type} (A : Pr) (B : Pk) (N : Nat) (x89 : Int) (x90 : Int) (k0 : Int → Option β) : Option β :=
    match (A.cm BinOp.geq x89 0) with
    | true => (match (A.cm BinOp.geq x90 0) with
      | true => (F39_2 A B N x89 0 1 (fun y91 =>
        F39_2 A B N x90 0 1 (fun y92 =>
          k0 (A.mx y91 y92))))
      | false => (match (A.cm BinOp.lss x89 0) with
        | true => (match (A.cm BinOp.lss x90 0) with
          | true => (k0 (-1))
          | false => (F39_2 A B N (A.ar BinOp.add IntKind.i64 x89 x90) (-1) 1 (fun y93 =>
            k0 y93)))
        | false => (F39_2 A B N (A.ar BinOp.add IntKind.i64 x89 x90) (-1) 1 (fun y94 =>
          k0 y94))))
    | false => (match (A.cm BinOp.lss x89 0) with
      | true => (match (A.cm BinOp.lss x90 0) with
        | true => (k0 (-1))
        | false => (F39_2 A B N (A.ar BinOp.add IntKind.i64 x89 x90) (-1) 1 (fun y95 =>
          k0 y95)))
      | false => (F39_2 A B N (A.ar BinOp.add IntKind.i64 x89 x90) (-1) 1 (fun y96 =>
        k0 y96)))

def M20_16 {β : Type} (A : Pr) (B : Pk) (N : Nat) (a : List T) : Option ((T → List (List T) → Option β) → Option β) :=
  match a with
  | [(T.r (R.i IntKind.i64 x89)), (T.r (R.i IntKind.i64 x90))] => some fun kk => F20_16 A B N x89 x90 (fun y97 => kk (T.r (R.i IntKind.i64 y97)) [])
  | _ => none

theorem e20_16 {β : Type} (A : Pr) (B : Pk) (N : Nat) (x89 : Int) (x90 : Int) (kk : T → List (List T) → Option β) :
    bodyK (mkK Go.Proofs.Try.prog A B [(39, M39_2 A B N)] [] (Go.Proofs.Ytcapaihnachkhaa.Hn 20).pt []) Go.Proofs.Try.f20 [(T.r (R.i IntKind.i64 x89)), (T.r (R.i IntKind.i64 x90))] kk = F20_16 A B N x89 x90 (fun y97 => kk (T.r (R.i IntKind.i64 y97)) []) := by kernel_rfl

theorem o20_16 {β : Type} (N : Nat) : Snd (β := β) Go.Proofs.Try.prog Go.Proofs.Ytcapaihnachkhaa.Hn 20 (M20_16 re rk N) := by
  intro a h kk r ha hr
  unfold M20_16 at ha
  split at ha
  · cases ha
    exact fn_ok (f := 20) (fn := Go.Proofs.Try.f20) (H := Go.Proofs.Ytcapaihnachkhaa.Hn) (by kernel_rfl) (show SndAll Go.Proofs.Try.prog Go.Proofs.Ytcapaihnachkhaa.Hn [(39, M39_2 re rk N)] from ⟨o39_2 N, trivial⟩) (spots := []) (by kernel_rfl) trivial ((e20_16 re rk N _ _ kk).trans hr)
  · cases ha

def F21_17 {β : Type} (A : Pr) (B : Pk) (N : Nat) (x99 : Int) (x100 : Int) (k0 : Int → Option β) : Option β :=
    match (A.cm BinOp.gtr x99 0) with
    | true => (match (A.cm BinOp.gtr x100 0) with
      | true => (k0 1)
      | false => (match (A.cm BinOp.lss x99 0) with
        | true => (match (A.cm BinOp.lss x100 0) with
          | true => (k0 (-1))
          | false => (F42_6 A B N (A.ar BinOp.add IntKind.i64 x99 x100) (-1) 1 (fun y101 =>
            k0 y101)))
        | false => (F42_6 A B N (A.ar BinOp.add IntKind.i64 x99 x100) (-1) 1 (fun y102 =>
          k0 y102))))
    | false => (match (A.cm BinOp.lss x99 0) with
      | true => (match (A.cm BinOp.lss x100 0) with
        | true => (k0 (-1))
        | false => (F42_6 A B N (A.ar BinOp.add IntKind.i64 x99 x100) (-1) 1 (fun y103 =>
          k0 y103)))
      | false => (F42_6 A B N (A.ar BinOp.add IntKind.i64 x99 x100) (-1) 1 (fun y104 =>
        k0 y104)))

def M21_17 {β : Type} (A : Pr) (B : Pk) (N : Nat) (a : List T) : Option ((T → List (List T) → Option β) → Option β) :=
  match a with
  | [(T.r (R.i IntKind.i64 x99)), (T.r (R.i IntKind.i64 x100))] => some fun kk => F21_17 A B N x99 x100 (fun y105 => kk (T.r (R.i IntKind.i64 y105)) [])
  | _ => none

theorem e21_17 {β : Type} (A : Pr) (B : Pk) (N : Nat) (x99 : Int) (x100 : Int) (kk : T → List (List T) → Option β) :
    bodyK (mkK Go.Proofs.Try.prog A B [(42, M42_6 A B N)] [] (Go.Proofs.Ytcapaihnachkhaa.Hn 21).pt []) Go.Proofs.Try.f21 [(T.r (R.i IntKind.i64 x99)), (T.r (R.i IntKind.i64 x100))] kk = F21_17 A B N x99 x100 (fun y105 => kk (T.r (R.i IntKind.i64 y105)) []) := by kernel_rfl

theorem o21_17 {β : Type} (N : Nat) : Snd (β := β) Go.Proofs.Try.prog Go.Proofs.Ytcapaihnachkhaa.Hn 21 (M21_17 re rk N) := by
  intro a h kk r ha hr
  unfold M21_17 at ha
  split at ha
  · cases ha
    exact fn_ok (f := 21) (fn := Go.Proofs.Try.f21) (H := Go.Proofs.Ytcapaihnachkhaa.Hn) (by kernel_rfl) (show SndAll Go.Proofs.Try.prog Go.Proofs.Ytcapaihnachkhaa.Hn [(42, M42_6 re rk N)] from ⟨o42_6 N, trivial⟩) (spots := []) (by kernel_rfl) trivial ((e21_17 re rk N _ _ kk).trans hr)
  · cases ha

def F5_13 {β : Type} (A : Pr) (B : Pk) (N : Nat) (x77 : Bool) (x78 : Bool) (x79 : Int) (x80 : Int) (k0 : Bool → Option β) : Option β :=
    F18_14 A B N x77 x78 (fun y84 =>
    F19_15 A B N x77 x78 (fun y88 =>
      match (A.cm BinOp.eql y84 y88) with
        | true => (F20_16 A B N x79 x80 (fun y98 =>
          F21_17 A B N x79 x80 (fun y106 =>
            match (A.cm BinOp.eql y98 y106) with
              | true => (k0 Bool.true)
              | false => (k0 Bool.false))))
        | false => (k0 Bool.false)))

def M5_13 {β : Type} (A : Pr) (B : Pk) (N : Nat) (a : List T) : Option ((T → List (List T) → Option β) → Option β) :=
  match a with
  | [(T.r (R.a [(R.b x77), (R.b x78)])), (T.r (R.i IntKind.i64 x79)), (T.r (R.i IntKind.i64 x80))] => some fun kk => F5_13 A B N x77 x78 x79 x80 (fun y107 => kk (T.r (R.b y107)) [])
  | _ => none

theorem e5_13 {β : Type} (A : Pr) (B : Pk) (N : Nat) (x77 : Bool) (x78 : Bool) (x79 : Int) (x80 : Int) (kk : T → List (List T) → Option β) :
    bodyK (mkK Go.Proofs.Try.prog A B [(18, M18_14 A B N), (19, M19_15 A B N), (20, M20_16 A B N), (21, M21_17 A B N), (15, M15_9 A B N)] [] (Go.Proofs.Ytcapaihnachkhaa.Hn 5).pt []) Go.Proofs.Try.f5 [(T.r (R.a [(R.b x77), (R.b x78)])), (T.r (R.i IntKind.i64 x79)), (T.r (R.i IntKind.i64 x80))] kk = F5_13 A B N x77 x78 x79 x80 (fun y107 => kk (T.r (R.b y107)) []) := by kernel_rfl

theorem o5_13 {β : Type} (N : Nat) : Snd (β := β) Go.Proofs.Try.prog Go.Proofs.Ytcapaihnachkhaa.Hn 5 (M5_13 re rk N) := by
  intro a h kk r ha hr
  unfold M5_13 at ha
  split at ha
  · cases ha
    exact fn_ok (f := 5) (fn := Go.Proofs.Try.f5) (H := Go.Proofs.Ytcapaihnachkhaa.Hn) (by kernel_rfl) (show SndAll Go.Proofs.Try.prog Go.Proofs.Ytcapaihnachkhaa.Hn [(18, M18_14 re rk N), (19, M19_15 re rk N), (20, M20_16 re rk N), (21, M21_17 re rk N), (15, M15_9 re rk N)] from ⟨o18_14 N, o19_15 N, o20_16 N, o21_17 N, o15_9 N, trivial⟩) (spots := []) (by kernel_rfl) trivial ((e5_13 re rk N _ _ _ _ kk).trans hr)
  · cases ha

end
