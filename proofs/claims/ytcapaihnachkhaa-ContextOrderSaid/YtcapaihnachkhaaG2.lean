/-
  The functions' trees, printed by a program of ours.
-/
import Derived.Test.YtcapaihnachkhaaH2
set_option linter.unusedVariables false
set_option maxRecDepth 100000
namespace Go.Proofs.Ytcapaihnachkhaa
open Go.Os
section
noncomputable def Y6_2 : Code := atF Go.Proofs.Try.f6 [true, true]
theorem j6_2 : firstReg Y6_2 = 2 := by kernel_rfl

noncomputable def Y6_3 : Code := atF Go.Proofs.Try.f6 [true, true, false, true]
theorem j6_3 : firstReg Y6_3 = 3 := by kernel_rfl

def M15_1 {β : Type} (A : Pr) (B : Pk) (N : Nat) (a : List T) : Option ((T → List (List T) → Option β) → Option β) :=
  match a with
  | [] => some fun kk => kk (T.r (R.b true)) []
  | _ => none

theorem r15_1 : runF Go.Proofs.Try.prog re Go.Proofs.Ytcapaihnachkhaa.Hn 40 15 [] = some (T.r (R.b true), []) := by kernel_rfl

theorem o15_1 {β : Type} (N : Nat) : Snd (β := β) Go.Proofs.Try.prog Go.Proofs.Ytcapaihnachkhaa.Hn 15 (M15_1 re rk N) := by
  refine closed_ok r15_1 fun a h ha => ?_
  unfold M15_1 at ha
  split at ha
  · cases ha; exact ⟨rfl, rfl⟩
  · cases ha

def J6_3_0 {β : Type} (A : Pr) (B : Pk) (N : Nat) (x10 : Int) (x11 : Int) (x12 : Int) (x13 : Int) (x14 : Int) (x15 : Int) (x16 : Bool) (k0 : Int → Int → Int → Bool → Int → Int → Int → Option β) (k1 : Int → Int → Int → Int → Int → Int → Option β) : Option β :=
    match x16 with
    | true => (k0 x10 x11 x12 Bool.true x13 x14 x15)
    | false => (k1 x10 x11 x12 x13 x14 x15)

def P0 : List PT := [(.r (.a [(.i IntKind.i64), (.i IntKind.i64), (.i IntKind.i64)])), .us 2, (.r (.i IntKind.i64)), (.r (.i IntKind.i64)), (.r (.i IntKind.i64)), .us 23, (.r .b), .us 89]

def P1 : List PT := [(.r (.a [(.i IntKind.i64), (.i IntKind.i64), (.i IntKind.i64)])), .us 1, (.r .b), (.r (.i IntKind.i64)), (.r (.i IntKind.i64)), (.r (.i IntKind.i64)), .us 113]

def P2 : List PT := [(.r (.a [(.i IntKind.i64), (.i IntKind.i64), (.i IntKind.i64)])), .us 2, (.r (.i IntKind.i64)), (.r (.i IntKind.i64)), (.r (.i IntKind.i64)), .us 113]

def MJ6_3_0 {β : Type} (A : Pr) (B : Pk) (N : Nat) (s : List T) : Option ((Ex → List T → Option β) → Option β) :=
  match gTs P0 s [] with
  | some [.i x10, .i x11, .i x12, .i x13, .i x14, .i x15, .b x16] => some fun kk => J6_3_0 A B N x10 x11 x12 x13 x14 x15 x16 (fun y17 y18 y19 y20 y21 y22 y23 => uTs P1 [.i y17, .i y18, .i y19, .b y20, .i y21, .i y22, .i y23] fun s _ => kk Ex.rt s) (fun y24 y25 y26 y27 y28 y29 => uTs P2 [.i y24, .i y25, .i y26, .i y27, .i y28, .i y29] fun s _ => kk Ex.nm s)
  | _ => none

theorem ej6_3_0 {β : Type} (A : Pr) (B : Pk) (N : Nat) (x10 : Int) (x11 : Int) (x12 : Int) (x13 : Int) (x14 : Int) (x15 : Int) (x16 : Bool) (kk : Ex → List T → Option β) :
    uTs P0 [.i x10, .i x11, .i x12, .i x13, .i x14, .i x15, .b x16] (fun s _ => evK (mkK Go.Proofs.Try.prog A B [(15, M15_1 A B N)] [] (Go.Proofs.Ytcapaihnachkhaa.Hn 6).pt []) Y6_3 s (fun e s' => kk e (ptEnd (Go.Proofs.Ytcapaihnachkhaa.Hn 6).pt (firstReg Y6_3) s'))) = J6_3_0 A B N x10 x11 x12 x13 x14 x15 x16 (fun y17 y18 y19 y20 y21 y22 y23 => uTs P1 [.i y17, .i y18, .i y19, .b y20, .i y21, .i y22, .i y23] fun s _ => kk Ex.rt s) (fun y24 y25 y26 y27 y28 y29 => uTs P2 [.i y24, .i y25, .i y26, .i y27, .i y28, .i y29] fun s _ => kk Ex.nm s) := by kernel_rfl

theorem oj6_3_0 {β : Type} (N : Nat) : SndJ (β := β) Go.Proofs.Try.prog Go.Proofs.Ytcapaihnachkhaa.Hn (Go.Proofs.Ytcapaihnachkhaa.Hn 6) Y6_3 (MJ6_3_0 re rk N) := by
  intro s h kk r ha hr
  unfold MJ6_3_0 at ha
  split at ha
  · rename_i hs
    cases ha
    have hk := via_pat hs ((ej6_3_0 re rk N _ _ _ _ _ _ _ kk).trans hr)
    exact join_ok (show SndAll Go.Proofs.Try.prog Go.Proofs.Ytcapaihnachkhaa.Hn [(15, M15_1 re rk N)] from ⟨o15_1 N, trivial⟩) (spots := []) (by kernel_rfl) trivial hk
  · cases ha

noncomputable def Y6_4 : Code := atF Go.Proofs.Try.f6 [true, true, true]
theorem j6_4 : firstReg Y6_4 = 4 := by kernel_rfl

def F39_3 {β : Type} (A : Pr) (B : Pk) (N : Nat) (x53 : Int) (x54 : Int) (x55 : Int) (k0 : Int → Option β) : Option β :=
    k0 (A.mn (A.mx x53 x54) x55)

def P3 : List PT := [(.r (.i IntKind.i64)), (.r (.i IntKind.i64)), (.r (.i IntKind.i64))]

def M39_3 {β : Type} (A : Pr) (B : Pk) (N : Nat) (a : List T) : Option ((T → List (List T) → Option β) → Option β) :=
  match gTs P3 a [] with
  | some [.i x53, .i x54, .i x55] => some fun kk => F39_3 A B N x53 x54 x55 (fun y56 => kk (T.r (R.i IntKind.i64 y56)) [])
  | _ => none

theorem e39_3 {β : Type} (A : Pr) (B : Pk) (N : Nat) (x53 : Int) (x54 : Int) (x55 : Int) (kk : T → List (List T) → Option β) :
    uTs P3 [.i x53, .i x54, .i x55] (fun a _ => bodyK (mkK Go.Proofs.Try.prog A B [] [] (Go.Proofs.Ytcapaihnachkhaa.Hn 39).pt []) Go.Proofs.Try.f39 a kk) = F39_3 A B N x53 x54 x55 (fun y56 => kk (T.r (R.i IntKind.i64 y56)) []) := by kernel_rfl

theorem o39_3 {β : Type} (N : Nat) : Snd (β := β) Go.Proofs.Try.prog Go.Proofs.Ytcapaihnachkhaa.Hn 39 (M39_3 re rk N) := by
  intro a h kk r ha hr
  unfold M39_3 at ha
  split at ha
  · rename_i hs
    cases ha
    have hk := via_pat hs ((e39_3 re rk N _ _ _ kk).trans hr)
    exact fn_ok (f := 39) (fn := Go.Proofs.Try.f39) (H := Go.Proofs.Ytcapaihnachkhaa.Hn) (by kernel_rfl) (show SndAll Go.Proofs.Try.prog Go.Proofs.Ytcapaihnachkhaa.Hn [] from trivial) (spots := []) (by kernel_rfl) trivial hk
  · cases ha

def F40_4 {β : Type} (A : Pr) (B : Pk) (N : Nat) (x60 : Int) (x61 : Int) (k0 : Int → Option β) : Option β :=
    match (A.cm BinOp.eql x61 0) with
    | true => (match (A.cm BinOp.eql (A.mn x60 2) 0) with
      | true => (k0 0)
      | false => (match (A.cm BinOp.eql (A.mn x60 2) 1) with
        | true => (k0 1)
        | false => (match (A.cm BinOp.eql (A.mn x60 2) 2) with
          | true => (k0 2)
          | false => none)))
    | false => (match (A.cm BinOp.eql x61 1) with
      | true => (match (A.cm BinOp.eql (A.mn x60 2) 0) with
        | true => (k0 3)
        | false => (match (A.cm BinOp.eql (A.mn x60 2) 1) with
          | true => (k0 4)
          | false => (match (A.cm BinOp.eql (A.mn x60 2) 2) with
            | true => (k0 5)
            | false => none)))
      | false => (match (A.cm BinOp.eql x61 2) with
        | true => (match (A.cm BinOp.eql (A.mn x60 2) 0) with
          | true => (k0 6)
          | false => (match (A.cm BinOp.eql (A.mn x60 2) 1) with
            | true => (k0 7)
            | false => (match (A.cm BinOp.eql (A.mn x60 2) 2) with
              | true => (k0 7)
              | false => none)))
        | false => (match (A.cm BinOp.eql x61 3) with
          | true => (match (A.cm BinOp.eql (A.mn x60 2) 0) with
            | true => (k0 8)
            | false => (match (A.cm BinOp.eql (A.mn x60 2) 1) with
              | true => (k0 8)
              | false => (match (A.cm BinOp.eql (A.mn x60 2) 2) with
                | true => (k0 8)
                | false => none)))
          | false => (match (A.cm BinOp.eql x61 4) with
            | true => (match (A.cm BinOp.eql (A.mn x60 2) 0) with
              | true => (k0 8)
              | false => (match (A.cm BinOp.eql (A.mn x60 2) 1) with
                | true => (k0 8)
                | false => (match (A.cm BinOp.eql (A.mn x60 2) 2) with
                  | true => (k0 8)
                  | false => none)))
            | false => none))))

def P4 : List PT := [(.r (.i IntKind.i64)), (.r (.i IntKind.i64))]

def M40_4 {β : Type} (A : Pr) (B : Pk) (N : Nat) (a : List T) : Option ((T → List (List T) → Option β) → Option β) :=
  match gTs P4 a [] with
  | some [.i x60, .i x61] => some fun kk => F40_4 A B N x60 x61 (fun y62 => kk (T.r (R.i IntKind.i64 y62)) [])
  | _ => none

theorem e40_4 {β : Type} (A : Pr) (B : Pk) (N : Nat) (x60 : Int) (x61 : Int) (kk : T → List (List T) → Option β) :
    uTs P4 [.i x60, .i x61] (fun a _ => bodyK (mkK Go.Proofs.Try.prog A B [] [] (Go.Proofs.Ytcapaihnachkhaa.Hn 40).pt []) Go.Proofs.Try.f40 a kk) = F40_4 A B N x60 x61 (fun y62 => kk (T.r (R.i IntKind.i64 y62)) []) := by kernel_rfl

theorem o40_4 {β : Type} (N : Nat) : Snd (β := β) Go.Proofs.Try.prog Go.Proofs.Ytcapaihnachkhaa.Hn 40 (M40_4 re rk N) := by
  intro a h kk r ha hr
  unfold M40_4 at ha
  split at ha
  · rename_i hs
    cases ha
    have hk := via_pat hs ((e40_4 re rk N _ _ kk).trans hr)
    exact fn_ok (f := 40) (fn := Go.Proofs.Try.f40) (H := Go.Proofs.Ytcapaihnachkhaa.Hn) (by kernel_rfl) (show SndAll Go.Proofs.Try.prog Go.Proofs.Ytcapaihnachkhaa.Hn [] from trivial) (spots := []) (by kernel_rfl) trivial hk
  · cases ha

def F41_5 {β : Type} (A : Pr) (B : Pk) (N : Nat) (x64 : Int) (x65 : Int) (x66 : Int) (k0 : Int → Option β) : Option β :=
    match (A.cm BinOp.eql x64 2) with
    | true => (k0 8)
    | false => (match (A.cm BinOp.eql x64 1) with
      | true => (match (A.cm BinOp.gtr x65 0) with
        | true => (k0 7)
        | false => (match (A.cm BinOp.eql x64 1) with
          | true => (k0 (A.ar BinOp.add IntKind.i64 5 (A.mn x66 1)))
          | false => (match (A.cm BinOp.gtr x65 0) with
            | true => (k0 (A.ar BinOp.add IntKind.i64 2 x65))
            | false => (k0 (A.mn x66 2)))))
      | false => (match (A.cm BinOp.eql x64 1) with
        | true => (k0 (A.ar BinOp.add IntKind.i64 5 (A.mn x66 1)))
        | false => (match (A.cm BinOp.gtr x65 0) with
          | true => (k0 (A.ar BinOp.add IntKind.i64 2 x65))
          | false => (k0 (A.mn x66 2)))))

def M41_5 {β : Type} (A : Pr) (B : Pk) (N : Nat) (a : List T) : Option ((T → List (List T) → Option β) → Option β) :=
  match gTs P3 a [] with
  | some [.i x64, .i x65, .i x66] => some fun kk => F41_5 A B N x64 x65 x66 (fun y67 => kk (T.r (R.i IntKind.i64 y67)) [])
  | _ => none

theorem e41_5 {β : Type} (A : Pr) (B : Pk) (N : Nat) (x64 : Int) (x65 : Int) (x66 : Int) (kk : T → List (List T) → Option β) :
    uTs P3 [.i x64, .i x65, .i x66] (fun a _ => bodyK (mkK Go.Proofs.Try.prog A B [] [] (Go.Proofs.Ytcapaihnachkhaa.Hn 41).pt []) Go.Proofs.Try.f41 a kk) = F41_5 A B N x64 x65 x66 (fun y67 => kk (T.r (R.i IntKind.i64 y67)) []) := by kernel_rfl

theorem o41_5 {β : Type} (N : Nat) : Snd (β := β) Go.Proofs.Try.prog Go.Proofs.Ytcapaihnachkhaa.Hn 41 (M41_5 re rk N) := by
  intro a h kk r ha hr
  unfold M41_5 at ha
  split at ha
  · rename_i hs
    cases ha
    have hk := via_pat hs ((e41_5 re rk N _ _ _ kk).trans hr)
    exact fn_ok (f := 41) (fn := Go.Proofs.Try.f41) (H := Go.Proofs.Ytcapaihnachkhaa.Hn) (by kernel_rfl) (show SndAll Go.Proofs.Try.prog Go.Proofs.Ytcapaihnachkhaa.Hn [] from trivial) (spots := []) (by kernel_rfl) trivial hk
  · cases ha

def F13_2 {β : Type} (A : Pr) (B : Pk) (N : Nat) (x49 : Int) (x50 : Int) (x51 : Int) (x52 : Int) (k0 : Int → Option β) : Option β :=
    F39_3 A B N x50 0 2 (fun y57 =>
    F39_3 A B N x51 0 2 (fun y58 =>
      F39_3 A B N x52 0 4 (fun y59 =>
        match (A.cm BinOp.eql x49 3) with
          | true => (F40_4 A B N (A.ar BinOp.add IntKind.i64 y57 y58) y59 (fun y63 =>
            k0 y63))
          | false => (match (A.cm BinOp.eql x49 1) with
            | true => (F41_5 A B N y58 y57 y59 (fun y68 =>
              k0 y68))
            | false => (F41_5 A B N y57 y58 y59 (fun y69 =>
              k0 y69))))))

def P5 : List PT := [(.r (.i IntKind.i64)), (.r (.i IntKind.i64)), (.r (.i IntKind.i64)), (.r (.i IntKind.i64))]

def M13_2 {β : Type} (A : Pr) (B : Pk) (N : Nat) (a : List T) : Option ((T → List (List T) → Option β) → Option β) :=
  match gTs P5 a [] with
  | some [.i x49, .i x50, .i x51, .i x52] => some fun kk => F13_2 A B N x49 x50 x51 x52 (fun y70 => kk (T.r (R.i IntKind.i64 y70)) [])
  | _ => none

theorem e13_2 {β : Type} (A : Pr) (B : Pk) (N : Nat) (x49 : Int) (x50 : Int) (x51 : Int) (x52 : Int) (kk : T → List (List T) → Option β) :
    uTs P5 [.i x49, .i x50, .i x51, .i x52] (fun a _ => bodyK (mkK Go.Proofs.Try.prog A B [(39, M39_3 A B N), (40, M40_4 A B N), (41, M41_5 A B N)] [] (Go.Proofs.Ytcapaihnachkhaa.Hn 13).pt []) Go.Proofs.Try.f13 a kk) = F13_2 A B N x49 x50 x51 x52 (fun y70 => kk (T.r (R.i IntKind.i64 y70)) []) := by kernel_rfl

theorem o13_2 {β : Type} (N : Nat) : Snd (β := β) Go.Proofs.Try.prog Go.Proofs.Ytcapaihnachkhaa.Hn 13 (M13_2 re rk N) := by
  intro a h kk r ha hr
  unfold M13_2 at ha
  split at ha
  · rename_i hs
    cases ha
    have hk := via_pat hs ((e13_2 re rk N _ _ _ _ kk).trans hr)
    exact fn_ok (f := 13) (fn := Go.Proofs.Try.f13) (H := Go.Proofs.Ytcapaihnachkhaa.Hn) (by kernel_rfl) (show SndAll Go.Proofs.Try.prog Go.Proofs.Ytcapaihnachkhaa.Hn [(39, M39_3 re rk N), (40, M40_4 re rk N), (41, M41_5 re rk N)] from ⟨o39_3 N, o40_4 N, o41_5 N, trivial⟩) (spots := []) (by kernel_rfl) trivial hk
  · cases ha

noncomputable def Y6_5 : Code := atF Go.Proofs.Try.f6 [true, true, true, false, true]
theorem j6_5 : firstReg Y6_5 = 5 := by kernel_rfl

def J6_5_0 {β : Type} (A : Pr) (B : Pk) (N : Nat) (x73 : Int) (x74 : Int) (x75 : Int) (x76 : Int) (x77 : Int) (x78 : Bool) (k0 : Int → Int → Int → Bool → Int → Int → Option β) (k1 : Int → Int → Int → Int → Int → Option β) : Option β :=
    match x78 with
    | true => (k0 x73 x74 x75 Bool.false x76 x77)
    | false => (k1 x73 x74 x75 x76 x77)

def P6 : List PT := [(.r (.a [(.i IntKind.i64), (.i IntKind.i64), (.i IntKind.i64)])), .us 2, (.r (.i IntKind.i64)), (.r (.i IntKind.i64)), .us 45, (.r .b), .us 68]

def P7 : List PT := [(.r (.a [(.i IntKind.i64), (.i IntKind.i64), (.i IntKind.i64)])), .us 1, (.r .b), (.r (.i IntKind.i64)), (.r (.i IntKind.i64)), .us 114]

def P8 : List PT := [(.r (.a [(.i IntKind.i64), (.i IntKind.i64), (.i IntKind.i64)])), .us 2, (.r (.i IntKind.i64)), (.r (.i IntKind.i64)), .us 114]

def MJ6_5_0 {β : Type} (A : Pr) (B : Pk) (N : Nat) (s : List T) : Option ((Ex → List T → Option β) → Option β) :=
  match gTs P6 s [] with
  | some [.i x73, .i x74, .i x75, .i x76, .i x77, .b x78] => some fun kk => J6_5_0 A B N x73 x74 x75 x76 x77 x78 (fun y79 y80 y81 y82 y83 y84 => uTs P7 [.i y79, .i y80, .i y81, .b y82, .i y83, .i y84] fun s _ => kk Ex.rt s) (fun y85 y86 y87 y88 y89 => uTs P8 [.i y85, .i y86, .i y87, .i y88, .i y89] fun s _ => kk Ex.nm s)
  | _ => none

theorem ej6_5_0 {β : Type} (A : Pr) (B : Pk) (N : Nat) (x73 : Int) (x74 : Int) (x75 : Int) (x76 : Int) (x77 : Int) (x78 : Bool) (kk : Ex → List T → Option β) :
    uTs P6 [.i x73, .i x74, .i x75, .i x76, .i x77, .b x78] (fun s _ => evK (mkK Go.Proofs.Try.prog A B [] [] (Go.Proofs.Ytcapaihnachkhaa.Hn 6).pt []) Y6_5 s (fun e s' => kk e (ptEnd (Go.Proofs.Ytcapaihnachkhaa.Hn 6).pt (firstReg Y6_5) s'))) = J6_5_0 A B N x73 x74 x75 x76 x77 x78 (fun y79 y80 y81 y82 y83 y84 => uTs P7 [.i y79, .i y80, .i y81, .b y82, .i y83, .i y84] fun s _ => kk Ex.rt s) (fun y85 y86 y87 y88 y89 => uTs P8 [.i y85, .i y86, .i y87, .i y88, .i y89] fun s _ => kk Ex.nm s) := by kernel_rfl

theorem oj6_5_0 {β : Type} (N : Nat) : SndJ (β := β) Go.Proofs.Try.prog Go.Proofs.Ytcapaihnachkhaa.Hn (Go.Proofs.Ytcapaihnachkhaa.Hn 6) Y6_5 (MJ6_5_0 re rk N) := by
  intro s h kk r ha hr
  unfold MJ6_5_0 at ha
  split at ha
  · rename_i hs
    cases ha
    have hk := via_pat hs ((ej6_5_0 re rk N _ _ _ _ _ _ kk).trans hr)
    exact join_ok (show SndAll Go.Proofs.Try.prog Go.Proofs.Ytcapaihnachkhaa.Hn [] from trivial) (spots := []) (by kernel_rfl) trivial hk
  · cases ha

noncomputable def Y6_6 : Code := atF Go.Proofs.Try.f6 [true, true, true, true]
theorem j6_6 : firstReg Y6_6 = 6 := by kernel_rfl

def F16_6 {β : Type} (A : Pr) (B : Pk) (N : Nat) (x106 : Int) (x107 : Int) (k0 : Int → Int → Option β) : Option β :=
    F39_3 A B N x106 (-1) 1 (fun y108 =>
    F39_3 A B N x107 (-1) 1 (fun y109 =>
      match (A.cm BinOp.lss y108 0) with
        | true => (match (A.cm BinOp.eql (A.ar BinOp.sub IntKind.i64 0 y108) 0) with
          | true => (match (A.cm BinOp.eql (A.ar BinOp.add IntKind.i64 (A.ar BinOp.sub IntKind.i64 0 y109) 1) 0) with
            | true => (k0 0 1)
            | false => (match (A.cm BinOp.eql (A.ar BinOp.add IntKind.i64 (A.ar BinOp.sub IntKind.i64 0 y109) 1) 1) with
              | true => (k0 9 1)
              | false => (match (A.cm BinOp.eql (A.ar BinOp.add IntKind.i64 (A.ar BinOp.sub IntKind.i64 0 y109) 1) 2) with
                | true => (k0 10 1)
                | false => none)))
          | false => (match (A.cm BinOp.eql (A.ar BinOp.sub IntKind.i64 0 y108) 1) with
            | true => (match (A.cm BinOp.eql (A.ar BinOp.add IntKind.i64 (A.ar BinOp.sub IntKind.i64 0 y109) 1) 0) with
              | true => (k0 11 1)
              | false => (match (A.cm BinOp.eql (A.ar BinOp.add IntKind.i64 (A.ar BinOp.sub IntKind.i64 0 y109) 1) 1) with
                | true => (k0 12 1)
                | false => (match (A.cm BinOp.eql (A.ar BinOp.add IntKind.i64 (A.ar BinOp.sub IntKind.i64 0 y109) 1) 2) with
                  | true => (k0 13 1)
                  | false => none)))
            | false => none))
        | false => (match (A.cm BinOp.eql y108 0) with
          | true => (match (A.cm BinOp.lss y109 0) with
            | true => (match (A.cm BinOp.eql (A.ar BinOp.sub IntKind.i64 0 y108) 0) with
              | true => (match (A.cm BinOp.eql (A.ar BinOp.add IntKind.i64 (A.ar BinOp.sub IntKind.i64 0 y109) 1) 0) with
                | true => (k0 0 1)
                | false => (match (A.cm BinOp.eql (A.ar BinOp.add IntKind.i64 (A.ar BinOp.sub IntKind.i64 0 y109) 1) 1) with
                  | true => (k0 9 1)
                  | false => (match (A.cm BinOp.eql (A.ar BinOp.add IntKind.i64 (A.ar BinOp.sub IntKind.i64 0 y109) 1) 2) with
                    | true => (k0 10 1)
                    | false => none)))
              | false => (match (A.cm BinOp.eql (A.ar BinOp.sub IntKind.i64 0 y108) 1) with
                | true => (match (A.cm BinOp.eql (A.ar BinOp.add IntKind.i64 (A.ar BinOp.sub IntKind.i64 0 y109) 1) 0) with
                  | true => (k0 11 1)
                  | false => (match (A.cm BinOp.eql (A.ar BinOp.add IntKind.i64 (A.ar BinOp.sub IntKind.i64 0 y109) 1) 1) with
                    | true => (k0 12 1)
                    | false => (match (A.cm BinOp.eql (A.ar BinOp.add IntKind.i64 (A.ar BinOp.sub IntKind.i64 0 y109) 1) 2) with
                      | true => (k0 13 1)
                      | false => none)))
                | false => none))
            | false => (match (A.cm BinOp.eql y108 0) with
              | true => (match (A.cm BinOp.eql (A.ar BinOp.add IntKind.i64 y109 1) 0) with
                | true => (k0 0 0)
                | false => (match (A.cm BinOp.eql (A.ar BinOp.add IntKind.i64 y109 1) 1) with
                  | true => (k0 9 0)
                  | false => (match (A.cm BinOp.eql (A.ar BinOp.add IntKind.i64 y109 1) 2) with
                    | true => (k0 10 0)
                    | false => none)))
              | false => (match (A.cm BinOp.eql y108 1) with
                | true => (match (A.cm BinOp.eql (A.ar BinOp.add IntKind.i64 y109 1) 0) with
                  | true => (k0 11 0)
                  | false => (match (A.cm BinOp.eql (A.ar BinOp.add IntKind.i64 y109 1) 1) with
                    | true => (k0 12 0)
                    | false => (match (A.cm BinOp.eql (A.ar BinOp.add IntKind.i64 y109 1) 2) with
                      | true => (k0 13 0)
                      | false => none)))
                | false => none)))
          | false => (match (A.cm BinOp.eql y108 0) with
            | true => (match (A.cm BinOp.eql (A.ar BinOp.add IntKind.i64 y109 1) 0) with
              | true => (k0 0 0)
              | false => (match (A.cm BinOp.eql (A.ar BinOp.add IntKind.i64 y109 1) 1) with
                | true => (k0 9 0)
                | false => (match (A.cm BinOp.eql (A.ar BinOp.add IntKind.i64 y109 1) 2) with
                  | true => (k0 10 0)
                  | false => none)))
            | false => (match (A.cm BinOp.eql y108 1) with
              | true => (match (A.cm BinOp.eql (A.ar BinOp.add IntKind.i64 y109 1) 0) with
                | true => (k0 11 0)
                | false => (match (A.cm BinOp.eql (A.ar BinOp.add IntKind.i64 y109 1) 1) with
                  | true => (k0 12 0)
                  | false => (match (A.cm BinOp.eql (A.ar BinOp.add IntKind.i64 y109 1) 2) with
                    | true => (k0 13 0)
                    | false => none)))
              | false => none)))))

def M16_6 {β : Type} (A : Pr) (B : Pk) (N : Nat) (a : List T) : Option ((T → List (List T) → Option β) → Option β) :=
  match gTs P4 a [] with
  | some [.i x106, .i x107] => some fun kk => F16_6 A B N x106 x107 (fun y110 y111 => kk (T.tp Bool.true [(T.r (R.i IntKind.i64 y110)), (T.r (R.i IntKind.i64 y111))]) [])
  | _ => none

theorem e16_6 {β : Type} (A : Pr) (B : Pk) (N : Nat) (x106 : Int) (x107 : Int) (kk : T → List (List T) → Option β) :
    uTs P4 [.i x106, .i x107] (fun a _ => bodyK (mkK Go.Proofs.Try.prog A B [(39, M39_3 A B N)] [] (Go.Proofs.Ytcapaihnachkhaa.Hn 16).pt []) Go.Proofs.Try.f16 a kk) = F16_6 A B N x106 x107 (fun y110 y111 => kk (T.tp Bool.true [(T.r (R.i IntKind.i64 y110)), (T.r (R.i IntKind.i64 y111))]) []) := by kernel_rfl

theorem o16_6 {β : Type} (N : Nat) : Snd (β := β) Go.Proofs.Try.prog Go.Proofs.Ytcapaihnachkhaa.Hn 16 (M16_6 re rk N) := by
  intro a h kk r ha hr
  unfold M16_6 at ha
  split at ha
  · rename_i hs
    cases ha
    have hk := via_pat hs ((e16_6 re rk N _ _ kk).trans hr)
    exact fn_ok (f := 16) (fn := Go.Proofs.Try.f16) (H := Go.Proofs.Ytcapaihnachkhaa.Hn) (by kernel_rfl) (show SndAll Go.Proofs.Try.prog Go.Proofs.Ytcapaihnachkhaa.Hn [(39, M39_3 re rk N)] from ⟨o39_3 N, trivial⟩) (spots := []) (by kernel_rfl) trivial hk
  · cases ha

noncomputable def Y6_7 : Code := atF Go.Proofs.Try.f6 [true, true, true, true, true]
theorem j6_7 : firstReg Y6_7 = 7 := by kernel_rfl

noncomputable def Y6_8 : Code := atF Go.Proofs.Try.f6 [true, true, true, true, true, true]
theorem j6_8 : firstReg Y6_8 = 8 := by kernel_rfl

noncomputable def Y6_9 : Code := atF Go.Proofs.Try.f6 [true, true, true, true, true, true, false, true]
theorem j6_9 : firstReg Y6_9 = 9 := by kernel_rfl

def J6_9_0 {β : Type} (A : Pr) (B : Pk) (N : Nat) (x132 : Int) (x133 : Int) (x134 : Int) (x135 : Int) (x136 : Int) (x137 : Bool) (k0 : Int → Int → Int → Bool → Int → Int → Option β) (k1 : Int → Int → Int → Int → Int → Option β) : Option β :=
    match x137 with
    | true => (k0 x132 x133 x134 Bool.false x135 x136)
    | false => (k1 x132 x133 x134 x135 x136)

def P9 : List PT := [(.r (.a [(.i IntKind.i64), (.i IntKind.i64), (.i IntKind.i64)])), .us 2, (.r (.i IntKind.i64)), (.r (.i IntKind.i64)), .us 91, (.r .b), .us 22]

def MJ6_9_0 {β : Type} (A : Pr) (B : Pk) (N : Nat) (s : List T) : Option ((Ex → List T → Option β) → Option β) :=
  match gTs P9 s [] with
  | some [.i x132, .i x133, .i x134, .i x135, .i x136, .b x137] => some fun kk => J6_9_0 A B N x132 x133 x134 x135 x136 x137 (fun y138 y139 y140 y141 y142 y143 => uTs P7 [.i y138, .i y139, .i y140, .b y141, .i y142, .i y143] fun s _ => kk Ex.rt s) (fun y144 y145 y146 y147 y148 => uTs P8 [.i y144, .i y145, .i y146, .i y147, .i y148] fun s _ => kk Ex.nm s)
  | _ => none

theorem ej6_9_0 {β : Type} (A : Pr) (B : Pk) (N : Nat) (x132 : Int) (x133 : Int) (x134 : Int) (x135 : Int) (x136 : Int) (x137 : Bool) (kk : Ex → List T → Option β) :
    uTs P9 [.i x132, .i x133, .i x134, .i x135, .i x136, .b x137] (fun s _ => evK (mkK Go.Proofs.Try.prog A B [] [] (Go.Proofs.Ytcapaihnachkhaa.Hn 6).pt []) Y6_9 s (fun e s' => kk e (ptEnd (Go.Proofs.Ytcapaihnachkhaa.Hn 6).pt (firstReg Y6_9) s'))) = J6_9_0 A B N x132 x133 x134 x135 x136 x137 (fun y138 y139 y140 y141 y142 y143 => uTs P7 [.i y138, .i y139, .i y140, .b y141, .i y142, .i y143] fun s _ => kk Ex.rt s) (fun y144 y145 y146 y147 y148 => uTs P8 [.i y144, .i y145, .i y146, .i y147, .i y148] fun s _ => kk Ex.nm s) := by kernel_rfl

theorem oj6_9_0 {β : Type} (N : Nat) : SndJ (β := β) Go.Proofs.Try.prog Go.Proofs.Ytcapaihnachkhaa.Hn (Go.Proofs.Ytcapaihnachkhaa.Hn 6) Y6_9 (MJ6_9_0 re rk N) := by
  intro s h kk r ha hr
  unfold MJ6_9_0 at ha
  split at ha
  · rename_i hs
    cases ha
    have hk := via_pat hs ((ej6_9_0 re rk N _ _ _ _ _ _ kk).trans hr)
    exact join_ok (show SndAll Go.Proofs.Try.prog Go.Proofs.Ytcapaihnachkhaa.Hn [] from trivial) (spots := []) (by kernel_rfl) trivial hk
  · cases ha

noncomputable def Y6_10 : Code := atF Go.Proofs.Try.f6 [true, true, true, true, true, true, true]
theorem j6_10 : firstReg Y6_10 = 10 := by kernel_rfl

def F20_7 {β : Type} (A : Pr) (B : Pk) (N : Nat) (x165 : Int) (x166 : Int) (k0 : Int → Option β) : Option β :=
    match (A.cm BinOp.geq x165 0) with
    | true => (match (A.cm BinOp.geq x166 0) with
      | true => (F39_3 A B N x165 0 1 (fun y167 =>
        F39_3 A B N x166 0 1 (fun y168 =>
          k0 (A.mx y167 y168))))
      | false => (match (A.cm BinOp.lss x165 0) with
        | true => (match (A.cm BinOp.lss x166 0) with
          | true => (k0 (-1))
          | false => (F39_3 A B N (A.ar BinOp.add IntKind.i64 x165 x166) (-1) 1 (fun y169 =>
            k0 y169)))
        | false => (F39_3 A B N (A.ar BinOp.add IntKind.i64 x165 x166) (-1) 1 (fun y170 =>
          k0 y170))))
    | false => (match (A.cm BinOp.lss x165 0) with
      | true => (match (A.cm BinOp.lss x166 0) with
        | true => (k0 (-1))
        | false => (F39_3 A B N (A.ar BinOp.add IntKind.i64 x165 x166) (-1) 1 (fun y171 =>
          k0 y171)))
      | false => (F39_3 A B N (A.ar BinOp.add IntKind.i64 x165 x166) (-1) 1 (fun y172 =>
        k0 y172)))

def M20_7 {β : Type} (A : Pr) (B : Pk) (N : Nat) (a : List T) : Option ((T → List (List T) → Option β) → Option β) :=
  match gTs P4 a [] with
  | some [.i x165, .i x166] => some fun kk => F20_7 A B N x165 x166 (fun y173 => kk (T.r (R.i IntKind.i64 y173)) [])
  | _ => none

theorem e20_7 {β : Type} (A : Pr) (B : Pk) (N : Nat) (x165 : Int) (x166 : Int) (kk : T → List (List T) → Option β) :
    uTs P4 [.i x165, .i x166] (fun a _ => bodyK (mkK Go.Proofs.Try.prog A B [(39, M39_3 A B N)] [] (Go.Proofs.Ytcapaihnachkhaa.Hn 20).pt []) Go.Proofs.Try.f20 a kk) = F20_7 A B N x165 x166 (fun y173 => kk (T.r (R.i IntKind.i64 y173)) []) := by kernel_rfl

theorem o20_7 {β : Type} (N : Nat) : Snd (β := β) Go.Proofs.Try.prog Go.Proofs.Ytcapaihnachkhaa.Hn 20 (M20_7 re rk N) := by
  intro a h kk r ha hr
  unfold M20_7 at ha
  split at ha
  · rename_i hs
    cases ha
    have hk := via_pat hs ((e20_7 re rk N _ _ kk).trans hr)
    exact fn_ok (f := 20) (fn := Go.Proofs.Try.f20) (H := Go.Proofs.Ytcapaihnachkhaa.Hn) (by kernel_rfl) (show SndAll Go.Proofs.Try.prog Go.Proofs.Ytcapaihnachkhaa.Hn [(39, M39_3 re rk N)] from ⟨o39_3 N, trivial⟩) (spots := []) (by kernel_rfl) trivial hk
  · cases ha

def J6_10_0 {β : Type} (A : Pr) (B : Pk) (N : Nat) (x160 : Int) (x161 : Int) (x162 : Int) (x163 : Int) (x164 : Int) (k0 : Int → Int → Int → Bool → Option β) : Option β :=
    F20_7 A B N x163 x164 (fun y174 =>
    F20_7 A B N x164 x163 (fun y175 =>
      match (A.cm BinOp.eql y174 y175) with
        | true => (F20_7 A B N (A.ar BinOp.sub IntKind.i64 0 x163) (A.ar BinOp.sub IntKind.i64 0 x164) (fun y176 =>
          F20_7 A B N x163 x164 (fun y177 =>
            match (A.cm BinOp.eql y176 (A.ar BinOp.sub IntKind.i64 0 y177)) with
              | true => (k0 x160 x161 x162 Bool.true)
              | false => (k0 x160 x161 x162 Bool.false))))
        | false => (k0 x160 x161 x162 Bool.false)))

def P10 : List PT := [(.r (.a [(.i IntKind.i64), (.i IntKind.i64), (.i IntKind.i64)])), .us 1, (.r .b), .us 116]

def MJ6_10_0 {β : Type} (A : Pr) (B : Pk) (N : Nat) (s : List T) : Option ((Ex → List T → Option β) → Option β) :=
  match gTs P8 s [] with
  | some [.i x160, .i x161, .i x162, .i x163, .i x164] => some fun kk => J6_10_0 A B N x160 x161 x162 x163 x164 (fun y178 y179 y180 y181 => uTs P10 [.i y178, .i y179, .i y180, .b y181] fun s _ => kk Ex.rt s)
  | _ => none

theorem ej6_10_0 {β : Type} (A : Pr) (B : Pk) (N : Nat) (x160 : Int) (x161 : Int) (x162 : Int) (x163 : Int) (x164 : Int) (kk : Ex → List T → Option β) :
    uTs P8 [.i x160, .i x161, .i x162, .i x163, .i x164] (fun s _ => evK (mkK Go.Proofs.Try.prog A B [(20, M20_7 A B N), (15, M15_1 A B N)] [] (Go.Proofs.Ytcapaihnachkhaa.Hn 6).pt []) Y6_10 s (fun e s' => kk e (ptEnd (Go.Proofs.Ytcapaihnachkhaa.Hn 6).pt (firstReg Y6_10) s'))) = J6_10_0 A B N x160 x161 x162 x163 x164 (fun y178 y179 y180 y181 => uTs P10 [.i y178, .i y179, .i y180, .b y181] fun s _ => kk Ex.rt s) := by kernel_rfl

theorem oj6_10_0 {β : Type} (N : Nat) : SndJ (β := β) Go.Proofs.Try.prog Go.Proofs.Ytcapaihnachkhaa.Hn (Go.Proofs.Ytcapaihnachkhaa.Hn 6) Y6_10 (MJ6_10_0 re rk N) := by
  intro s h kk r ha hr
  unfold MJ6_10_0 at ha
  split at ha
  · rename_i hs
    cases ha
    have hk := via_pat hs ((ej6_10_0 re rk N _ _ _ _ _ kk).trans hr)
    exact join_ok (show SndAll Go.Proofs.Try.prog Go.Proofs.Ytcapaihnachkhaa.Hn [(20, M20_7 re rk N), (15, M15_1 re rk N)] from ⟨o20_7 N, o15_1 N, trivial⟩) (spots := []) (by kernel_rfl) trivial hk
  · cases ha

def J6_8_0 {β : Type} (A : Pr) (B : Pk) (N : Nat) (x123 : Int) (x124 : Int) (x125 : Int) (x126 : Int) (x127 : Int) (x128 : Int) (x129 : Int) (x130 : Int) (x131 : Int) (k0 : Int → Int → Int → Bool → Option β) : Option β :=
    match (A.cm BinOp.neq x128 x130) with
    | true => (J6_9_0 A B N x123 x124 x125 x126 x127 Bool.true (fun y149 y150 y151 y152 y153 y154 =>
      k0 y149 y150 y151 y152) (fun y155 y156 y157 y158 y159 =>
      J6_10_0 A B N y155 y156 y157 y158 y159 (fun y182 y183 y184 y185 =>
        k0 y182 y183 y184 y185)))
    | false => (match (A.cm BinOp.eql x129 x131) with
      | true => (match (A.cm BinOp.neq x126 0) with
        | true => (J6_9_0 A B N x123 x124 x125 x126 x127 Bool.true (fun y186 y187 y188 y189 y190 y191 =>
          k0 y186 y187 y188 y189) (fun y192 y193 y194 y195 y196 =>
          J6_10_0 A B N y192 y193 y194 y195 y196 (fun y197 y198 y199 y200 =>
            k0 y197 y198 y199 y200)))
        | false => (match (A.cm BinOp.neq x127 0) with
          | true => (J6_9_0 A B N x123 x124 x125 x126 x127 Bool.true (fun y201 y202 y203 y204 y205 y206 =>
            k0 y201 y202 y203 y204) (fun y207 y208 y209 y210 y211 =>
            J6_10_0 A B N y207 y208 y209 y210 y211 (fun y212 y213 y214 y215 =>
              k0 y212 y213 y214 y215)))
          | false => (match (A.cm BinOp.lss x129 0) with
            | true => (J6_9_0 A B N x123 x124 x125 x126 x127 Bool.true (fun y216 y217 y218 y219 y220 y221 =>
              k0 y216 y217 y218 y219) (fun y222 y223 y224 y225 y226 =>
              J6_10_0 A B N y222 y223 y224 y225 y226 (fun y227 y228 y229 y230 =>
                k0 y227 y228 y229 y230)))
            | false => (match (A.cm BinOp.gtr x129 1) with
              | true => (J6_9_0 A B N x123 x124 x125 x126 x127 Bool.true (fun y231 y232 y233 y234 y235 y236 =>
                k0 y231 y232 y233 y234) (fun y237 y238 y239 y240 y241 =>
                J6_10_0 A B N y237 y238 y239 y240 y241 (fun y242 y243 y244 y245 =>
                  k0 y242 y243 y244 y245)))
              | false => (match (A.cm BinOp.lss x131 0) with
                | true => (J6_9_0 A B N x123 x124 x125 x126 x127 Bool.true (fun y246 y247 y248 y249 y250 y251 =>
                  k0 y246 y247 y248 y249) (fun y252 y253 y254 y255 y256 =>
                  J6_10_0 A B N y252 y253 y254 y255 y256 (fun y257 y258 y259 y260 =>
                    k0 y257 y258 y259 y260)))
                | false => (J6_9_0 A B N x123 x124 x125 x126 x127 (A.cm BinOp.gtr x131 1) (fun y261 y262 y263 y264 y265 y266 =>
                  k0 y261 y262 y263 y264) (fun y267 y268 y269 y270 y271 =>
                  J6_10_0 A B N y267 y268 y269 y270 y271 (fun y272 y273 y274 y275 =>
                    k0 y272 y273 y274 y275))))))))
      | false => (match (A.cm BinOp.lss x129 0) with
        | true => (J6_9_0 A B N x123 x124 x125 x126 x127 Bool.true (fun y276 y277 y278 y279 y280 y281 =>
          k0 y276 y277 y278 y279) (fun y282 y283 y284 y285 y286 =>
          J6_10_0 A B N y282 y283 y284 y285 y286 (fun y287 y288 y289 y290 =>
            k0 y287 y288 y289 y290)))
        | false => (match (A.cm BinOp.gtr x129 1) with
          | true => (J6_9_0 A B N x123 x124 x125 x126 x127 Bool.true (fun y291 y292 y293 y294 y295 y296 =>
            k0 y291 y292 y293 y294) (fun y297 y298 y299 y300 y301 =>
            J6_10_0 A B N y297 y298 y299 y300 y301 (fun y302 y303 y304 y305 =>
              k0 y302 y303 y304 y305)))
          | false => (match (A.cm BinOp.lss x131 0) with
            | true => (J6_9_0 A B N x123 x124 x125 x126 x127 Bool.true (fun y306 y307 y308 y309 y310 y311 =>
              k0 y306 y307 y308 y309) (fun y312 y313 y314 y315 y316 =>
              J6_10_0 A B N y312 y313 y314 y315 y316 (fun y317 y318 y319 y320 =>
                k0 y317 y318 y319 y320)))
            | false => (J6_9_0 A B N x123 x124 x125 x126 x127 (A.cm BinOp.gtr x131 1) (fun y321 y322 y323 y324 y325 y326 =>
              k0 y321 y322 y323 y324) (fun y327 y328 y329 y330 y331 =>
              J6_10_0 A B N y327 y328 y329 y330 y331 (fun y332 y333 y334 y335 =>
                k0 y332 y333 y334 y335)))))))

def P11 : List PT := [(.r (.a [(.i IntKind.i64), (.i IntKind.i64), (.i IntKind.i64)])), .us 2, (.r (.i IntKind.i64)), (.r (.i IntKind.i64)), .us 1, (.r (.i IntKind.i64)), (.r (.i IntKind.i64)), (.r (.i IntKind.i64)), (.r (.i IntKind.i64)), .us 109]

def MJ6_8_0 {β : Type} (A : Pr) (B : Pk) (N : Nat) (s : List T) : Option ((Ex → List T → Option β) → Option β) :=
  match gTs P11 s [] with
  | some [.i x123, .i x124, .i x125, .i x126, .i x127, .i x128, .i x129, .i x130, .i x131] => some fun kk => J6_8_0 A B N x123 x124 x125 x126 x127 x128 x129 x130 x131 (fun y336 y337 y338 y339 => uTs P10 [.i y336, .i y337, .i y338, .b y339] fun s _ => kk Ex.rt s)
  | _ => none

theorem ej6_8_0 {β : Type} (A : Pr) (B : Pk) (N : Nat) (x123 : Int) (x124 : Int) (x125 : Int) (x126 : Int) (x127 : Int) (x128 : Int) (x129 : Int) (x130 : Int) (x131 : Int) (kk : Ex → List T → Option β) :
    uTs P11 [.i x123, .i x124, .i x125, .i x126, .i x127, .i x128, .i x129, .i x130, .i x131] (fun s _ => evK (mkK Go.Proofs.Try.prog A B [] [] (Go.Proofs.Ytcapaihnachkhaa.Hn 6).pt [(9, MJ6_9_0 A B N), (10, MJ6_10_0 A B N)]) Y6_8 s (fun e s' => kk e (ptEnd (Go.Proofs.Ytcapaihnachkhaa.Hn 6).pt (firstReg Y6_8) s'))) = J6_8_0 A B N x123 x124 x125 x126 x127 x128 x129 x130 x131 (fun y336 y337 y338 y339 => uTs P10 [.i y336, .i y337, .i y338, .b y339] fun s _ => kk Ex.rt s) := by kernel_rfl

theorem oj6_8_0 {β : Type} (N : Nat) : SndJ (β := β) Go.Proofs.Try.prog Go.Proofs.Ytcapaihnachkhaa.Hn (Go.Proofs.Ytcapaihnachkhaa.Hn 6) Y6_8 (MJ6_8_0 re rk N) := by
  intro s h kk r ha hr
  unfold MJ6_8_0 at ha
  split at ha
  · rename_i hs
    cases ha
    have hk := via_pat hs ((ej6_8_0 re rk N _ _ _ _ _ _ _ _ _ kk).trans hr)
    exact join_ok (show SndAll Go.Proofs.Try.prog Go.Proofs.Ytcapaihnachkhaa.Hn [] from trivial) (spots := [.pt Y6_9, .pt Y6_10]) (by kernel_rfl) ⟨cut_pt (id := 9) j6_9 (oj6_9_0 N) (fun s kk => by kernel_rfl), cut_pt (id := 10) j6_10 (oj6_10_0 N) (fun s kk => by kernel_rfl), trivial⟩ hk
  · cases ha

def J6_7_0 {β : Type} (A : Pr) (B : Pk) (N : Nat) (x114 : Int) (x115 : Int) (x116 : Int) (x117 : Int) (x118 : Int) (x119 : Int) (x120 : Int) (k0 : Int → Int → Int → Bool → Option β) : Option β :=
    F16_6 A B N (A.ar BinOp.sub IntKind.i64 0 x117) (A.ar BinOp.sub IntKind.i64 0 x118) (fun y121 y122 =>
    J6_8_0 A B N x114 x115 x116 x117 x118 x119 x120 y121 y122 (fun y340 y341 y342 y343 =>
      k0 y340 y341 y342 y343))

def P12 : List PT := [(.r (.a [(.i IntKind.i64), (.i IntKind.i64), (.i IntKind.i64)])), .us 2, (.r (.i IntKind.i64)), (.r (.i IntKind.i64)), .us 1, (.r (.i IntKind.i64)), (.r (.i IntKind.i64)), .us 111]

def MJ6_7_0 {β : Type} (A : Pr) (B : Pk) (N : Nat) (s : List T) : Option ((Ex → List T → Option β) → Option β) :=
  match gTs P12 s [] with
  | some [.i x114, .i x115, .i x116, .i x117, .i x118, .i x119, .i x120] => some fun kk => J6_7_0 A B N x114 x115 x116 x117 x118 x119 x120 (fun y344 y345 y346 y347 => uTs P10 [.i y344, .i y345, .i y346, .b y347] fun s _ => kk Ex.rt s)
  | _ => none

theorem ej6_7_0 {β : Type} (A : Pr) (B : Pk) (N : Nat) (x114 : Int) (x115 : Int) (x116 : Int) (x117 : Int) (x118 : Int) (x119 : Int) (x120 : Int) (kk : Ex → List T → Option β) :
    uTs P12 [.i x114, .i x115, .i x116, .i x117, .i x118, .i x119, .i x120] (fun s _ => evK (mkK Go.Proofs.Try.prog A B [(16, M16_6 A B N)] [] (Go.Proofs.Ytcapaihnachkhaa.Hn 6).pt [(8, MJ6_8_0 A B N)]) Y6_7 s (fun e s' => kk e (ptEnd (Go.Proofs.Ytcapaihnachkhaa.Hn 6).pt (firstReg Y6_7) s'))) = J6_7_0 A B N x114 x115 x116 x117 x118 x119 x120 (fun y344 y345 y346 y347 => uTs P10 [.i y344, .i y345, .i y346, .b y347] fun s _ => kk Ex.rt s) := by kernel_rfl

theorem oj6_7_0 {β : Type} (N : Nat) : SndJ (β := β) Go.Proofs.Try.prog Go.Proofs.Ytcapaihnachkhaa.Hn (Go.Proofs.Ytcapaihnachkhaa.Hn 6) Y6_7 (MJ6_7_0 re rk N) := by
  intro s h kk r ha hr
  unfold MJ6_7_0 at ha
  split at ha
  · rename_i hs
    cases ha
    have hk := via_pat hs ((ej6_7_0 re rk N _ _ _ _ _ _ _ kk).trans hr)
    exact join_ok (show SndAll Go.Proofs.Try.prog Go.Proofs.Ytcapaihnachkhaa.Hn [(16, M16_6 re rk N)] from ⟨o16_6 N, trivial⟩) (spots := [.pt Y6_8]) (by kernel_rfl) ⟨cut_pt (id := 8) j6_8 (oj6_8_0 N) (fun s kk => by kernel_rfl), trivial⟩ hk
  · cases ha

def J6_6_0 {β : Type} (A : Pr) (B : Pk) (N : Nat) (x101 : Int) (x102 : Int) (x103 : Int) (x104 : Int) (x105 : Int) (k0 : Int → Int → Int → Bool → Option β) : Option β :=
    F16_6 A B N x104 x105 (fun y112 y113 =>
    J6_7_0 A B N x101 x102 x103 x104 x105 y112 y113 (fun y348 y349 y350 y351 =>
      k0 y348 y349 y350 y351))

def MJ6_6_0 {β : Type} (A : Pr) (B : Pk) (N : Nat) (s : List T) : Option ((Ex → List T → Option β) → Option β) :=
  match gTs P8 s [] with
  | some [.i x101, .i x102, .i x103, .i x104, .i x105] => some fun kk => J6_6_0 A B N x101 x102 x103 x104 x105 (fun y352 y353 y354 y355 => uTs P10 [.i y352, .i y353, .i y354, .b y355] fun s _ => kk Ex.rt s)
  | _ => none

theorem ej6_6_0 {β : Type} (A : Pr) (B : Pk) (N : Nat) (x101 : Int) (x102 : Int) (x103 : Int) (x104 : Int) (x105 : Int) (kk : Ex → List T → Option β) :
    uTs P8 [.i x101, .i x102, .i x103, .i x104, .i x105] (fun s _ => evK (mkK Go.Proofs.Try.prog A B [(16, M16_6 A B N)] [] (Go.Proofs.Ytcapaihnachkhaa.Hn 6).pt [(7, MJ6_7_0 A B N)]) Y6_6 s (fun e s' => kk e (ptEnd (Go.Proofs.Ytcapaihnachkhaa.Hn 6).pt (firstReg Y6_6) s'))) = J6_6_0 A B N x101 x102 x103 x104 x105 (fun y352 y353 y354 y355 => uTs P10 [.i y352, .i y353, .i y354, .b y355] fun s _ => kk Ex.rt s) := by kernel_rfl

theorem oj6_6_0 {β : Type} (N : Nat) : SndJ (β := β) Go.Proofs.Try.prog Go.Proofs.Ytcapaihnachkhaa.Hn (Go.Proofs.Ytcapaihnachkhaa.Hn 6) Y6_6 (MJ6_6_0 re rk N) := by
  intro s h kk r ha hr
  unfold MJ6_6_0 at ha
  split at ha
  · rename_i hs
    cases ha
    have hk := via_pat hs ((ej6_6_0 re rk N _ _ _ _ _ kk).trans hr)
    exact join_ok (show SndAll Go.Proofs.Try.prog Go.Proofs.Ytcapaihnachkhaa.Hn [(16, M16_6 re rk N)] from ⟨o16_6 N, trivial⟩) (spots := [.pt Y6_7]) (by kernel_rfl) ⟨cut_pt (id := 7) j6_7 (oj6_7_0 N) (fun s kk => by kernel_rfl), trivial⟩ hk
  · cases ha

def J6_4_0 {β : Type} (A : Pr) (B : Pk) (N : Nat) (x43 : Int) (x44 : Int) (x45 : Int) (x46 : Int) (x47 : Int) (x48 : Int) (k0 : Int → Int → Int → Bool → Option β) : Option β :=
    F13_2 A B N 1 x46 x47 x48 (fun y71 =>
    F13_2 A B N 2 x47 x46 x48 (fun y72 =>
      match (A.cm BinOp.neq y71 y72) with
        | true => (J6_5_0 A B N x43 x44 x45 x46 x47 Bool.true (fun y90 y91 y92 y93 y94 y95 =>
          k0 y90 y91 y92 y93) (fun y96 y97 y98 y99 y100 =>
          J6_6_0 A B N y96 y97 y98 y99 y100 (fun y356 y357 y358 y359 =>
            k0 y356 y357 y358 y359)))
        | false => (F13_2 A B N 3 x46 x47 x48 (fun y360 =>
          F13_2 A B N 3 x47 x46 x48 (fun y361 =>
            J6_5_0 A B N x43 x44 x45 x46 x47 (A.cm BinOp.neq y360 y361) (fun y362 y363 y364 y365 y366 y367 =>
              k0 y362 y363 y364 y365) (fun y368 y369 y370 y371 y372 =>
              J6_6_0 A B N y368 y369 y370 y371 y372 (fun y373 y374 y375 y376 =>
                k0 y373 y374 y375 y376)))))))

def MJ6_4_0 {β : Type} (A : Pr) (B : Pk) (N : Nat) (s : List T) : Option ((Ex → List T → Option β) → Option β) :=
  match gTs P2 s [] with
  | some [.i x43, .i x44, .i x45, .i x46, .i x47, .i x48] => some fun kk => J6_4_0 A B N x43 x44 x45 x46 x47 x48 (fun y377 y378 y379 y380 => uTs P10 [.i y377, .i y378, .i y379, .b y380] fun s _ => kk Ex.rt s)
  | _ => none

theorem ej6_4_0 {β : Type} (A : Pr) (B : Pk) (N : Nat) (x43 : Int) (x44 : Int) (x45 : Int) (x46 : Int) (x47 : Int) (x48 : Int) (kk : Ex → List T → Option β) :
    uTs P2 [.i x43, .i x44, .i x45, .i x46, .i x47, .i x48] (fun s _ => evK (mkK Go.Proofs.Try.prog A B [(13, M13_2 A B N)] [] (Go.Proofs.Ytcapaihnachkhaa.Hn 6).pt [(5, MJ6_5_0 A B N), (6, MJ6_6_0 A B N)]) Y6_4 s (fun e s' => kk e (ptEnd (Go.Proofs.Ytcapaihnachkhaa.Hn 6).pt (firstReg Y6_4) s'))) = J6_4_0 A B N x43 x44 x45 x46 x47 x48 (fun y377 y378 y379 y380 => uTs P10 [.i y377, .i y378, .i y379, .b y380] fun s _ => kk Ex.rt s) := by kernel_rfl

theorem oj6_4_0 {β : Type} (N : Nat) : SndJ (β := β) Go.Proofs.Try.prog Go.Proofs.Ytcapaihnachkhaa.Hn (Go.Proofs.Ytcapaihnachkhaa.Hn 6) Y6_4 (MJ6_4_0 re rk N) := by
  intro s h kk r ha hr
  unfold MJ6_4_0 at ha
  split at ha
  · rename_i hs
    cases ha
    have hk := via_pat hs ((ej6_4_0 re rk N _ _ _ _ _ _ kk).trans hr)
    exact join_ok (show SndAll Go.Proofs.Try.prog Go.Proofs.Ytcapaihnachkhaa.Hn [(13, M13_2 re rk N)] from ⟨o13_2 N, trivial⟩) (spots := [.pt Y6_5, .pt Y6_6]) (by kernel_rfl) ⟨cut_pt (id := 5) j6_5 (oj6_5_0 N) (fun s kk => by kernel_rfl), cut_pt (id := 6) j6_6 (oj6_6_0 N) (fun s kk => by kernel_rfl), trivial⟩ hk
  · cases ha

def J6_2_0 {β : Type} (A : Pr) (B : Pk) (N : Nat) (x4 : Int) (x5 : Int) (x6 : Int) (x7 : Int) (x8 : Int) (x9 : Int) (k0 : Int → Int → Int → Bool → Option β) : Option β :=
    match (A.cm BinOp.lss x7 (-1152921504606846976)) with
    | true => (J6_3_0 A B N x4 x5 x6 x7 x8 x9 Bool.true (fun y30 y31 y32 y33 y34 y35 y36 =>
      k0 y30 y31 y32 y33) (fun y37 y38 y39 y40 y41 y42 =>
      J6_4_0 A B N y37 y38 y39 y40 y41 y42 (fun y381 y382 y383 y384 =>
        k0 y381 y382 y383 y384)))
    | false => (match (A.cm BinOp.gtr x7 1152921504606846976) with
      | true => (J6_3_0 A B N x4 x5 x6 x7 x8 x9 Bool.true (fun y385 y386 y387 y388 y389 y390 y391 =>
        k0 y385 y386 y387 y388) (fun y392 y393 y394 y395 y396 y397 =>
        J6_4_0 A B N y392 y393 y394 y395 y396 y397 (fun y398 y399 y400 y401 =>
          k0 y398 y399 y400 y401)))
      | false => (match (A.cm BinOp.lss x8 (-1152921504606846976)) with
        | true => (J6_3_0 A B N x4 x5 x6 x7 x8 x9 Bool.true (fun y402 y403 y404 y405 y406 y407 y408 =>
          k0 y402 y403 y404 y405) (fun y409 y410 y411 y412 y413 y414 =>
          J6_4_0 A B N y409 y410 y411 y412 y413 y414 (fun y415 y416 y417 y418 =>
            k0 y415 y416 y417 y418)))
        | false => (J6_3_0 A B N x4 x5 x6 x7 x8 x9 (A.cm BinOp.gtr x8 1152921504606846976) (fun y419 y420 y421 y422 y423 y424 y425 =>
          k0 y419 y420 y421 y422) (fun y426 y427 y428 y429 y430 y431 =>
          J6_4_0 A B N y426 y427 y428 y429 y430 y431 (fun y432 y433 y434 y435 =>
            k0 y432 y433 y434 y435)))))

def MJ6_2_0 {β : Type} (A : Pr) (B : Pk) (N : Nat) (s : List T) : Option ((Ex → List T → Option β) → Option β) :=
  match gTs P2 s [] with
  | some [.i x4, .i x5, .i x6, .i x7, .i x8, .i x9] => some fun kk => J6_2_0 A B N x4 x5 x6 x7 x8 x9 (fun y436 y437 y438 y439 => uTs P10 [.i y436, .i y437, .i y438, .b y439] fun s _ => kk Ex.rt s)
  | _ => none

theorem ej6_2_0 {β : Type} (A : Pr) (B : Pk) (N : Nat) (x4 : Int) (x5 : Int) (x6 : Int) (x7 : Int) (x8 : Int) (x9 : Int) (kk : Ex → List T → Option β) :
    uTs P2 [.i x4, .i x5, .i x6, .i x7, .i x8, .i x9] (fun s _ => evK (mkK Go.Proofs.Try.prog A B [] [] (Go.Proofs.Ytcapaihnachkhaa.Hn 6).pt [(3, MJ6_3_0 A B N), (4, MJ6_4_0 A B N)]) Y6_2 s (fun e s' => kk e (ptEnd (Go.Proofs.Ytcapaihnachkhaa.Hn 6).pt (firstReg Y6_2) s'))) = J6_2_0 A B N x4 x5 x6 x7 x8 x9 (fun y436 y437 y438 y439 => uTs P10 [.i y436, .i y437, .i y438, .b y439] fun s _ => kk Ex.rt s) := by kernel_rfl

theorem oj6_2_0 {β : Type} (N : Nat) : SndJ (β := β) Go.Proofs.Try.prog Go.Proofs.Ytcapaihnachkhaa.Hn (Go.Proofs.Ytcapaihnachkhaa.Hn 6) Y6_2 (MJ6_2_0 re rk N) := by
  intro s h kk r ha hr
  unfold MJ6_2_0 at ha
  split at ha
  · rename_i hs
    cases ha
    have hk := via_pat hs ((ej6_2_0 re rk N _ _ _ _ _ _ kk).trans hr)
    exact join_ok (show SndAll Go.Proofs.Try.prog Go.Proofs.Ytcapaihnachkhaa.Hn [] from trivial) (spots := [.pt Y6_3, .pt Y6_4]) (by kernel_rfl) ⟨cut_pt (id := 3) j6_3 (oj6_3_0 N) (fun s kk => by kernel_rfl), cut_pt (id := 4) j6_4 (oj6_4_0 N) (fun s kk => by kernel_rfl), trivial⟩ hk
  · cases ha

def F6_0 {β : Type} (A : Pr) (B : Pk) (N : Nat) (x1 : Int) (x2 : Int) (x3 : Int) (k0 : Bool → Option β) : Option β :=
    J6_2_0 A B N x1 x2 x3 x1 x2 x3 (fun y440 y441 y442 y443 =>
    k0 y443)

def P13 : List PT := [(.r (.a [(.i IntKind.i64), (.i IntKind.i64), (.i IntKind.i64)]))]

def M6_0 {β : Type} (A : Pr) (B : Pk) (N : Nat) (a : List T) : Option ((T → List (List T) → Option β) → Option β) :=
  match gTs P13 a [] with
  | some [.i x1, .i x2, .i x3] => some fun kk => F6_0 A B N x1 x2 x3 (fun y444 => kk (T.r (R.b y444)) [])
  | _ => none

theorem e6_0 {β : Type} (A : Pr) (B : Pk) (N : Nat) (x1 : Int) (x2 : Int) (x3 : Int) (kk : T → List (List T) → Option β) :
    uTs P13 [.i x1, .i x2, .i x3] (fun a _ => bodyK (mkK Go.Proofs.Try.prog A B [] [] (Go.Proofs.Ytcapaihnachkhaa.Hn 6).pt [(2, MJ6_2_0 A B N)]) Go.Proofs.Try.f6 a kk) = F6_0 A B N x1 x2 x3 (fun y444 => kk (T.r (R.b y444)) []) := by kernel_rfl

theorem o6_0 {β : Type} (N : Nat) : Snd (β := β) Go.Proofs.Try.prog Go.Proofs.Ytcapaihnachkhaa.Hn 6 (M6_0 re rk N) := by
  intro a h kk r ha hr
  unfold M6_0 at ha
  split at ha
  · rename_i hs
    cases ha
    have hk := via_pat hs ((e6_0 re rk N _ _ _ kk).trans hr)
    exact fn_ok (f := 6) (fn := Go.Proofs.Try.f6) (H := Go.Proofs.Ytcapaihnachkhaa.Hn) (by kernel_rfl) (show SndAll Go.Proofs.Try.prog Go.Proofs.Ytcapaihnachkhaa.Hn [] from trivial) (spots := [.pt Y6_2]) (by kernel_rfl) ⟨cut_pt (id := 2) j6_2 (oj6_2_0 N) (fun s kk => by kernel_rfl), trivial⟩ hk
  · cases ha

noncomputable def Y7_2 : Code := atF Go.Proofs.Try.f7 [true, true]
theorem j7_2 : firstReg Y7_2 = 2 := by kernel_rfl

noncomputable def Y7_3 : Code := atF Go.Proofs.Try.f7 [true, true, true]
theorem j7_3 : firstReg Y7_3 = 3 := by kernel_rfl

noncomputable def Y7_4 : Code := atF Go.Proofs.Try.f7 [true, true, true, true]
theorem j7_4 : firstReg Y7_4 = 4 := by kernel_rfl

noncomputable def Y7_5 : Code := atF Go.Proofs.Try.f7 [true, true, true, true, false, true]
theorem j7_5 : firstReg Y7_5 = 5 := by kernel_rfl

def J7_5_0 {β : Type} (A : Pr) (B : Pk) (N : Nat) (x492 : Int) (x493 : Int) (x494 : Int) (x495 : Int) (x496 : Int) (x497 : Int) (x498 : Int) (x499 : Int) (x500 : Int) (x501 : Bool) (k0 : Int → Int → Int → Int → Int → Int → Int → Bool → Int → Int → Option β) (k1 : Int → Int → Int → Int → Int → Int → Int → Int → Int → Option β) : Option β :=
    match x501 with
    | true => (k0 x492 x493 x494 x495 x496 x497 x498 Bool.false x499 x500)
    | false => (k1 x492 x493 x494 x495 x496 x497 x498 x499 x500)

def P14 : List PT := [(.r (.i IntKind.i64)), (.r (.a [(.i IntKind.u8), (.i IntKind.u8), (.i IntKind.u8)])), (.r (.a [(.i IntKind.u8), (.i IntKind.u8), (.i IntKind.u8)])), .us 4, (.r (.i IntKind.i64)), (.r (.i IntKind.i64)), .us 74, (.r .b), .us 30]

def P15 : List PT := [(.r (.i IntKind.i64)), (.r (.a [(.i IntKind.u8), (.i IntKind.u8), (.i IntKind.u8)])), (.r (.a [(.i IntKind.u8), (.i IntKind.u8), (.i IntKind.u8)])), .us 3, (.r .b), (.r (.i IntKind.i64)), (.r (.i IntKind.i64)), .us 105]

def P16 : List PT := [(.r (.i IntKind.i64)), (.r (.a [(.i IntKind.u8), (.i IntKind.u8), (.i IntKind.u8)])), (.r (.a [(.i IntKind.u8), (.i IntKind.u8), (.i IntKind.u8)])), .us 4, (.r (.i IntKind.i64)), (.r (.i IntKind.i64)), .us 105]

def MJ7_5_0 {β : Type} (A : Pr) (B : Pk) (N : Nat) (s : List T) : Option ((Ex → List T → Option β) → Option β) :=
  match gTs P14 s [] with
  | some [.i x492, .i x493, .i x494, .i x495, .i x496, .i x497, .i x498, .i x499, .i x500, .b x501] => some fun kk => J7_5_0 A B N x492 x493 x494 x495 x496 x497 x498 x499 x500 x501 (fun y502 y503 y504 y505 y506 y507 y508 y509 y510 y511 => uTs P15 [.i y502, .i y503, .i y504, .i y505, .i y506, .i y507, .i y508, .b y509, .i y510, .i y511] fun s _ => kk Ex.rt s) (fun y512 y513 y514 y515 y516 y517 y518 y519 y520 => uTs P16 [.i y512, .i y513, .i y514, .i y515, .i y516, .i y517, .i y518, .i y519, .i y520] fun s _ => kk Ex.nm s)
  | _ => none

theorem ej7_5_0 {β : Type} (A : Pr) (B : Pk) (N : Nat) (x492 : Int) (x493 : Int) (x494 : Int) (x495 : Int) (x496 : Int) (x497 : Int) (x498 : Int) (x499 : Int) (x500 : Int) (x501 : Bool) (kk : Ex → List T → Option β) :
    uTs P14 [.i x492, .i x493, .i x494, .i x495, .i x496, .i x497, .i x498, .i x499, .i x500, .b x501] (fun s _ => evK (mkK Go.Proofs.Try.prog A B [] [] (Go.Proofs.Ytcapaihnachkhaa.Hn 7).pt []) Y7_5 s (fun e s' => kk e (ptEnd (Go.Proofs.Ytcapaihnachkhaa.Hn 7).pt (firstReg Y7_5) s'))) = J7_5_0 A B N x492 x493 x494 x495 x496 x497 x498 x499 x500 x501 (fun y502 y503 y504 y505 y506 y507 y508 y509 y510 y511 => uTs P15 [.i y502, .i y503, .i y504, .i y505, .i y506, .i y507, .i y508, .b y509, .i y510, .i y511] fun s _ => kk Ex.rt s) (fun y512 y513 y514 y515 y516 y517 y518 y519 y520 => uTs P16 [.i y512, .i y513, .i y514, .i y515, .i y516, .i y517, .i y518, .i y519, .i y520] fun s _ => kk Ex.nm s) := by kernel_rfl

theorem oj7_5_0 {β : Type} (N : Nat) : SndJ (β := β) Go.Proofs.Try.prog Go.Proofs.Ytcapaihnachkhaa.Hn (Go.Proofs.Ytcapaihnachkhaa.Hn 7) Y7_5 (MJ7_5_0 re rk N) := by
  intro s h kk r ha hr
  unfold MJ7_5_0 at ha
  split at ha
  · rename_i hs
    cases ha
    have hk := via_pat hs ((ej7_5_0 re rk N _ _ _ _ _ _ _ _ _ _ kk).trans hr)
    exact join_ok (show SndAll Go.Proofs.Try.prog Go.Proofs.Ytcapaihnachkhaa.Hn [] from trivial) (spots := []) (by kernel_rfl) trivial hk
  · cases ha

noncomputable def Y7_6 : Code := atF Go.Proofs.Try.f7 [true, true, true, true, true]
theorem j7_6 : firstReg Y7_6 = 6 := by kernel_rfl

noncomputable def Y7_7 : Code := atF Go.Proofs.Try.f7 [true, true, true, true, true, true]
theorem j7_7 : firstReg Y7_7 = 7 := by kernel_rfl

def F18_9 {β : Type} (A : Pr) (B : Pk) (N : Nat) (x561 : Bool) (x562 : Bool) (k0 : Int → Option β) : Option β :=
    match (A.bn x561) with
    | true => (k0 16)
    | false => (match x562 with
      | true => (k0 15)
      | false => (k0 14))

def P17 : List PT := [(.r .b), (.r .b)]

def M18_9 {β : Type} (A : Pr) (B : Pk) (N : Nat) (a : List T) : Option ((T → List (List T) → Option β) → Option β) :=
  match gTs P17 a [] with
  | some [.b x561, .b x562] => some fun kk => F18_9 A B N x561 x562 (fun y563 => kk (T.r (R.i IntKind.i64 y563)) [])
  | _ => none

theorem e18_9 {β : Type} (A : Pr) (B : Pk) (N : Nat) (x561 : Bool) (x562 : Bool) (kk : T → List (List T) → Option β) :
    uTs P17 [.b x561, .b x562] (fun a _ => bodyK (mkK Go.Proofs.Try.prog A B [] [] (Go.Proofs.Ytcapaihnachkhaa.Hn 18).pt []) Go.Proofs.Try.f18 a kk) = F18_9 A B N x561 x562 (fun y563 => kk (T.r (R.i IntKind.i64 y563)) []) := by kernel_rfl

theorem o18_9 {β : Type} (N : Nat) : Snd (β := β) Go.Proofs.Try.prog Go.Proofs.Ytcapaihnachkhaa.Hn 18 (M18_9 re rk N) := by
  intro a h kk r ha hr
  unfold M18_9 at ha
  split at ha
  · rename_i hs
    cases ha
    have hk := via_pat hs ((e18_9 re rk N _ _ kk).trans hr)
    exact fn_ok (f := 18) (fn := Go.Proofs.Try.f18) (H := Go.Proofs.Ytcapaihnachkhaa.Hn) (by kernel_rfl) (show SndAll Go.Proofs.Try.prog Go.Proofs.Ytcapaihnachkhaa.Hn [] from trivial) (spots := []) (by kernel_rfl) trivial hk
  · cases ha

noncomputable def Y7_8 : Code := atF Go.Proofs.Try.f7 [true, true, true, true, true, true, true]
theorem j7_8 : firstReg Y7_8 = 8 := by kernel_rfl

def J7_8_0 {β : Type} (A : Pr) (B : Pk) (N : Nat) (x565 : Int) (x566 : Int) (x567 : Int) (x568 : Int) (x569 : Int) (x570 : Int) (x571 : Int) (x572 : Int) (x573 : Int) (k0 : Int → Int → Int → Int → Int → Int → Int → Bool → Option β) : Option β :=
    match (A.cm BinOp.leq 9 x572) with
    | true => (match (A.cm BinOp.leq x572 13) with
      | true => (match (A.cm BinOp.leq 14 x573) with
        | true => (match (A.cm BinOp.leq x573 16) with
          | true => (k0 x565 x566 x567 x568 x569 x570 x571 Bool.true)
          | false => (k0 x565 x566 x567 x568 x569 x570 x571 Bool.false))
        | false => (k0 x565 x566 x567 x568 x569 x570 x571 Bool.false))
      | false => (k0 x565 x566 x567 x568 x569 x570 x571 Bool.false))
    | false => (k0 x565 x566 x567 x568 x569 x570 x571 Bool.false)

def P18 : List PT := [(.r (.i IntKind.i64)), (.r (.a [(.i IntKind.u8), (.i IntKind.u8), (.i IntKind.u8)])), (.r (.a [(.i IntKind.u8), (.i IntKind.u8), (.i IntKind.u8)])), .us 12, (.r (.i IntKind.i64)), .us 1, (.r (.i IntKind.i64)), .us 96]

def P19 : List PT := [(.r (.i IntKind.i64)), (.r (.a [(.i IntKind.u8), (.i IntKind.u8), (.i IntKind.u8)])), (.r (.a [(.i IntKind.u8), (.i IntKind.u8), (.i IntKind.u8)])), .us 3, (.r .b), .us 107]

def MJ7_8_0 {β : Type} (A : Pr) (B : Pk) (N : Nat) (s : List T) : Option ((Ex → List T → Option β) → Option β) :=
  match gTs P18 s [] with
  | some [.i x565, .i x566, .i x567, .i x568, .i x569, .i x570, .i x571, .i x572, .i x573] => some fun kk => J7_8_0 A B N x565 x566 x567 x568 x569 x570 x571 x572 x573 (fun y574 y575 y576 y577 y578 y579 y580 y581 => uTs P19 [.i y574, .i y575, .i y576, .i y577, .i y578, .i y579, .i y580, .b y581] fun s _ => kk Ex.rt s)
  | _ => none

theorem ej7_8_0 {β : Type} (A : Pr) (B : Pk) (N : Nat) (x565 : Int) (x566 : Int) (x567 : Int) (x568 : Int) (x569 : Int) (x570 : Int) (x571 : Int) (x572 : Int) (x573 : Int) (kk : Ex → List T → Option β) :
    uTs P18 [.i x565, .i x566, .i x567, .i x568, .i x569, .i x570, .i x571, .i x572, .i x573] (fun s _ => evK (mkK Go.Proofs.Try.prog A B [(15, M15_1 A B N)] [] (Go.Proofs.Ytcapaihnachkhaa.Hn 7).pt []) Y7_8 s (fun e s' => kk e (ptEnd (Go.Proofs.Ytcapaihnachkhaa.Hn 7).pt (firstReg Y7_8) s'))) = J7_8_0 A B N x565 x566 x567 x568 x569 x570 x571 x572 x573 (fun y574 y575 y576 y577 y578 y579 y580 y581 => uTs P19 [.i y574, .i y575, .i y576, .i y577, .i y578, .i y579, .i y580, .b y581] fun s _ => kk Ex.rt s) := by kernel_rfl

theorem oj7_8_0 {β : Type} (N : Nat) : SndJ (β := β) Go.Proofs.Try.prog Go.Proofs.Ytcapaihnachkhaa.Hn (Go.Proofs.Ytcapaihnachkhaa.Hn 7) Y7_8 (MJ7_8_0 re rk N) := by
  intro s h kk r ha hr
  unfold MJ7_8_0 at ha
  split at ha
  · rename_i hs
    cases ha
    have hk := via_pat hs ((ej7_8_0 re rk N _ _ _ _ _ _ _ _ _ kk).trans hr)
    exact join_ok (show SndAll Go.Proofs.Try.prog Go.Proofs.Ytcapaihnachkhaa.Hn [(15, M15_1 re rk N)] from ⟨o15_1 N, trivial⟩) (spots := []) (by kernel_rfl) trivial hk
  · cases ha

def J7_7_0 {β : Type} (A : Pr) (B : Pk) (N : Nat) (x551 : Int) (x552 : Int) (x553 : Int) (x554 : Int) (x555 : Int) (x556 : Int) (x557 : Int) (x558 : Int) (x559 : Int) (x560 : Int) (k0 : Int → Int → Int → Int → Int → Int → Int → Bool → Option β) : Option β :=
    F18_9 A B N (A.cm BinOp.gtr x558 1) (A.cm BinOp.gtr x559 1) (fun y564 =>
    J7_8_0 A B N x551 x552 x553 x554 x555 x556 x557 x560 y564 (fun y582 y583 y584 y585 y586 y587 y588 y589 =>
      k0 y582 y583 y584 y585 y586 y587 y588 y589))

def P20 : List PT := [(.r (.i IntKind.i64)), (.r (.a [(.i IntKind.u8), (.i IntKind.u8), (.i IntKind.u8)])), (.r (.a [(.i IntKind.u8), (.i IntKind.u8), (.i IntKind.u8)])), .us 4, (.r (.i IntKind.i64)), (.r (.i IntKind.i64)), .us 6, (.r (.i IntKind.i64)), .us 98]

def MJ7_7_0 {β : Type} (A : Pr) (B : Pk) (N : Nat) (s : List T) : Option ((Ex → List T → Option β) → Option β) :=
  match gTs P20 s [] with
  | some [.i x551, .i x552, .i x553, .i x554, .i x555, .i x556, .i x557, .i x558, .i x559, .i x560] => some fun kk => J7_7_0 A B N x551 x552 x553 x554 x555 x556 x557 x558 x559 x560 (fun y590 y591 y592 y593 y594 y595 y596 y597 => uTs P19 [.i y590, .i y591, .i y592, .i y593, .i y594, .i y595, .i y596, .b y597] fun s _ => kk Ex.rt s)
  | _ => none

theorem ej7_7_0 {β : Type} (A : Pr) (B : Pk) (N : Nat) (x551 : Int) (x552 : Int) (x553 : Int) (x554 : Int) (x555 : Int) (x556 : Int) (x557 : Int) (x558 : Int) (x559 : Int) (x560 : Int) (kk : Ex → List T → Option β) :
    uTs P20 [.i x551, .i x552, .i x553, .i x554, .i x555, .i x556, .i x557, .i x558, .i x559, .i x560] (fun s _ => evK (mkK Go.Proofs.Try.prog A B [(18, M18_9 A B N)] [] (Go.Proofs.Ytcapaihnachkhaa.Hn 7).pt [(8, MJ7_8_0 A B N)]) Y7_7 s (fun e s' => kk e (ptEnd (Go.Proofs.Ytcapaihnachkhaa.Hn 7).pt (firstReg Y7_7) s'))) = J7_7_0 A B N x551 x552 x553 x554 x555 x556 x557 x558 x559 x560 (fun y590 y591 y592 y593 y594 y595 y596 y597 => uTs P19 [.i y590, .i y591, .i y592, .i y593, .i y594, .i y595, .i y596, .b y597] fun s _ => kk Ex.rt s) := by kernel_rfl

theorem oj7_7_0 {β : Type} (N : Nat) : SndJ (β := β) Go.Proofs.Try.prog Go.Proofs.Ytcapaihnachkhaa.Hn (Go.Proofs.Ytcapaihnachkhaa.Hn 7) Y7_7 (MJ7_7_0 re rk N) := by
  intro s h kk r ha hr
  unfold MJ7_7_0 at ha
  split at ha
  · rename_i hs
    cases ha
    have hk := via_pat hs ((ej7_7_0 re rk N _ _ _ _ _ _ _ _ _ _ kk).trans hr)
    exact join_ok (show SndAll Go.Proofs.Try.prog Go.Proofs.Ytcapaihnachkhaa.Hn [(18, M18_9 re rk N)] from ⟨o18_9 N, trivial⟩) (spots := [.pt Y7_8]) (by kernel_rfl) ⟨cut_pt (id := 8) j7_8 (oj7_8_0 N) (fun s kk => by kernel_rfl), trivial⟩ hk
  · cases ha

def J7_6_0 {β : Type} (A : Pr) (B : Pk) (N : Nat) (x540 : Int) (x541 : Int) (x542 : Int) (x543 : Int) (x544 : Int) (x545 : Int) (x546 : Int) (x547 : Int) (x548 : Int) (k0 : Int → Int → Int → Int → Int → Int → Int → Bool → Option β) : Option β :=
    F16_6 A B N (A.ar BinOp.sub IntKind.i64 x547 2) (A.ar BinOp.sub IntKind.i64 x548 2) (fun y549 y550 =>
    J7_7_0 A B N x540 x541 x542 x543 x544 x545 x546 x547 x548 y549 (fun y598 y599 y600 y601 y602 y603 y604 y605 =>
      k0 y598 y599 y600 y601 y602 y603 y604 y605))

def MJ7_6_0 {β : Type} (A : Pr) (B : Pk) (N : Nat) (s : List T) : Option ((Ex → List T → Option β) → Option β) :=
  match gTs P16 s [] with
  | some [.i x540, .i x541, .i x542, .i x543, .i x544, .i x545, .i x546, .i x547, .i x548] => some fun kk => J7_6_0 A B N x540 x541 x542 x543 x544 x545 x546 x547 x548 (fun y606 y607 y608 y609 y610 y611 y612 y613 => uTs P19 [.i y606, .i y607, .i y608, .i y609, .i y610, .i y611, .i y612, .b y613] fun s _ => kk Ex.rt s)
  | _ => none

theorem ej7_6_0 {β : Type} (A : Pr) (B : Pk) (N : Nat) (x540 : Int) (x541 : Int) (x542 : Int) (x543 : Int) (x544 : Int) (x545 : Int) (x546 : Int) (x547 : Int) (x548 : Int) (kk : Ex → List T → Option β) :
    uTs P16 [.i x540, .i x541, .i x542, .i x543, .i x544, .i x545, .i x546, .i x547, .i x548] (fun s _ => evK (mkK Go.Proofs.Try.prog A B [(16, M16_6 A B N)] [] (Go.Proofs.Ytcapaihnachkhaa.Hn 7).pt [(7, MJ7_7_0 A B N)]) Y7_6 s (fun e s' => kk e (ptEnd (Go.Proofs.Ytcapaihnachkhaa.Hn 7).pt (firstReg Y7_6) s'))) = J7_6_0 A B N x540 x541 x542 x543 x544 x545 x546 x547 x548 (fun y606 y607 y608 y609 y610 y611 y612 y613 => uTs P19 [.i y606, .i y607, .i y608, .i y609, .i y610, .i y611, .i y612, .b y613] fun s _ => kk Ex.rt s) := by kernel_rfl

theorem oj7_6_0 {β : Type} (N : Nat) : SndJ (β := β) Go.Proofs.Try.prog Go.Proofs.Ytcapaihnachkhaa.Hn (Go.Proofs.Ytcapaihnachkhaa.Hn 7) Y7_6 (MJ7_6_0 re rk N) := by
  intro s h kk r ha hr
  unfold MJ7_6_0 at ha
  split at ha
  · rename_i hs
    cases ha
    have hk := via_pat hs ((ej7_6_0 re rk N _ _ _ _ _ _ _ _ _ kk).trans hr)
    exact join_ok (show SndAll Go.Proofs.Try.prog Go.Proofs.Ytcapaihnachkhaa.Hn [(16, M16_6 re rk N)] from ⟨o16_6 N, trivial⟩) (spots := [.pt Y7_7]) (by kernel_rfl) ⟨cut_pt (id := 7) j7_7 (oj7_7_0 N) (fun s kk => by kernel_rfl), trivial⟩ hk
  · cases ha

def J7_4_0 {β : Type} (A : Pr) (B : Pk) (N : Nat) (x480 : Int) (x481 : Int) (x482 : Int) (x483 : Int) (x484 : Int) (x485 : Int) (x486 : Int) (x487 : Int) (x488 : Int) (x489 : Int) (x490 : Int) (x491 : Int) (k0 : Int → Int → Int → Int → Int → Int → Int → Bool → Option β) : Option β :=
    match (A.cm BinOp.gtr x490 x491) with
    | true => (J7_5_0 A B N x480 x481 x482 x483 x484 x485 x486 x487 x488 Bool.true (fun y521 y522 y523 y524 y525 y526 y527 y528 y529 y530 =>
      k0 y521 y522 y523 y524 y525 y526 y527 y528) (fun y531 y532 y533 y534 y535 y536 y537 y538 y539 =>
      J7_6_0 A B N y531 y532 y533 y534 y535 y536 y537 y538 y539 (fun y614 y615 y616 y617 y618 y619 y620 y621 =>
        k0 y614 y615 y616 y617 y618 y619 y620 y621)))
    | false => (match (A.cm BinOp.lss x490 0) with
      | true => (J7_5_0 A B N x480 x481 x482 x483 x484 x485 x486 x487 x488 Bool.true (fun y622 y623 y624 y625 y626 y627 y628 y629 y630 y631 =>
        k0 y622 y623 y624 y625 y626 y627 y628 y629) (fun y632 y633 y634 y635 y636 y637 y638 y639 y640 =>
        J7_6_0 A B N y632 y633 y634 y635 y636 y637 y638 y639 y640 (fun y641 y642 y643 y644 y645 y646 y647 y648 =>
          k0 y641 y642 y643 y644 y645 y646 y647 y648)))
      | false => (match (A.cm BinOp.gtr x491 8) with
        | true => (J7_5_0 A B N x480 x481 x482 x483 x484 x485 x486 x487 x488 Bool.true (fun y649 y650 y651 y652 y653 y654 y655 y656 y657 y658 =>
          k0 y649 y650 y651 y652 y653 y654 y655 y656) (fun y659 y660 y661 y662 y663 y664 y665 y666 y667 =>
          J7_6_0 A B N y659 y660 y661 y662 y663 y664 y665 y666 y667 (fun y668 y669 y670 y671 y672 y673 y674 y675 =>
            k0 y668 y669 y670 y671 y672 y673 y674 y675)))
        | false => (match (A.cm BinOp.eql x487 0) with
          | true => (match (A.cm BinOp.eql x488 0) with
            | true => (J7_5_0 A B N x480 x481 x482 x483 x484 x485 x486 x487 x488 (A.bn (A.be (A.cm BinOp.eql x490 0) (A.cm BinOp.eql x489 0))) (fun y676 y677 y678 y679 y680 y681 y682 y683 y684 y685 =>
              k0 y676 y677 y678 y679 y680 y681 y682 y683) (fun y686 y687 y688 y689 y690 y691 y692 y693 y694 =>
              J7_6_0 A B N y686 y687 y688 y689 y690 y691 y692 y693 y694 (fun y695 y696 y697 y698 y699 y700 y701 y702 =>
                k0 y695 y696 y697 y698 y699 y700 y701 y702)))
            | false => (J7_5_0 A B N x480 x481 x482 x483 x484 x485 x486 x487 x488 (A.bn (A.be (A.cm BinOp.eql x490 0) Bool.false)) (fun y703 y704 y705 y706 y707 y708 y709 y710 y711 y712 =>
              k0 y703 y704 y705 y706 y707 y708 y709 y710) (fun y713 y714 y715 y716 y717 y718 y719 y720 y721 =>
              J7_6_0 A B N y713 y714 y715 y716 y717 y718 y719 y720 y721 (fun y722 y723 y724 y725 y726 y727 y728 y729 =>
                k0 y722 y723 y724 y725 y726 y727 y728 y729))))
          | false => (J7_5_0 A B N x480 x481 x482 x483 x484 x485 x486 x487 x488 (A.bn (A.be (A.cm BinOp.eql x490 0) Bool.false)) (fun y730 y731 y732 y733 y734 y735 y736 y737 y738 y739 =>
            k0 y730 y731 y732 y733 y734 y735 y736 y737) (fun y740 y741 y742 y743 y744 y745 y746 y747 y748 =>
            J7_6_0 A B N y740 y741 y742 y743 y744 y745 y746 y747 y748 (fun y749 y750 y751 y752 y753 y754 y755 y756 =>
              k0 y749 y750 y751 y752 y753 y754 y755 y756))))))

def P21 : List PT := [(.r (.i IntKind.i64)), (.r (.a [(.i IntKind.u8), (.i IntKind.u8), (.i IntKind.u8)])), (.r (.a [(.i IntKind.u8), (.i IntKind.u8), (.i IntKind.u8)])), .us 4, (.r (.i IntKind.i64)), (.r (.i IntKind.i64)), (.r (.i IntKind.i64)), .us 3, (.r (.i IntKind.i64)), (.r (.i IntKind.i64)), .us 99]

def MJ7_4_0 {β : Type} (A : Pr) (B : Pk) (N : Nat) (s : List T) : Option ((Ex → List T → Option β) → Option β) :=
  match gTs P21 s [] with
  | some [.i x480, .i x481, .i x482, .i x483, .i x484, .i x485, .i x486, .i x487, .i x488, .i x489, .i x490, .i x491] => some fun kk => J7_4_0 A B N x480 x481 x482 x483 x484 x485 x486 x487 x488 x489 x490 x491 (fun y757 y758 y759 y760 y761 y762 y763 y764 => uTs P19 [.i y757, .i y758, .i y759, .i y760, .i y761, .i y762, .i y763, .b y764] fun s _ => kk Ex.rt s)
  | _ => none

theorem ej7_4_0 {β : Type} (A : Pr) (B : Pk) (N : Nat) (x480 : Int) (x481 : Int) (x482 : Int) (x483 : Int) (x484 : Int) (x485 : Int) (x486 : Int) (x487 : Int) (x488 : Int) (x489 : Int) (x490 : Int) (x491 : Int) (kk : Ex → List T → Option β) :
    uTs P21 [.i x480, .i x481, .i x482, .i x483, .i x484, .i x485, .i x486, .i x487, .i x488, .i x489, .i x490, .i x491] (fun s _ => evK (mkK Go.Proofs.Try.prog A B [] [] (Go.Proofs.Ytcapaihnachkhaa.Hn 7).pt [(5, MJ7_5_0 A B N), (6, MJ7_6_0 A B N)]) Y7_4 s (fun e s' => kk e (ptEnd (Go.Proofs.Ytcapaihnachkhaa.Hn 7).pt (firstReg Y7_4) s'))) = J7_4_0 A B N x480 x481 x482 x483 x484 x485 x486 x487 x488 x489 x490 x491 (fun y757 y758 y759 y760 y761 y762 y763 y764 => uTs P19 [.i y757, .i y758, .i y759, .i y760, .i y761, .i y762, .i y763, .b y764] fun s _ => kk Ex.rt s) := by kernel_rfl

theorem oj7_4_0 {β : Type} (N : Nat) : SndJ (β := β) Go.Proofs.Try.prog Go.Proofs.Ytcapaihnachkhaa.Hn (Go.Proofs.Ytcapaihnachkhaa.Hn 7) Y7_4 (MJ7_4_0 re rk N) := by
  intro s h kk r ha hr
  unfold MJ7_4_0 at ha
  split at ha
  · rename_i hs
    cases ha
    have hk := via_pat hs ((ej7_4_0 re rk N _ _ _ _ _ _ _ _ _ _ _ _ kk).trans hr)
    exact join_ok (show SndAll Go.Proofs.Try.prog Go.Proofs.Ytcapaihnachkhaa.Hn [] from trivial) (spots := [.pt Y7_5, .pt Y7_6]) (by kernel_rfl) ⟨cut_pt (id := 5) j7_5 (oj7_5_0 N) (fun s kk => by kernel_rfl), cut_pt (id := 6) j7_6 (oj7_6_0 N) (fun s kk => by kernel_rfl), trivial⟩ hk
  · cases ha

def J7_3_0 {β : Type} (A : Pr) (B : Pk) (N : Nat) (x465 : Int) (x466 : Int) (x467 : Int) (x468 : Int) (x469 : Int) (x470 : Int) (x471 : Int) (x472 : Int) (x473 : Int) (x474 : Int) (x475 : Int) (x476 : Int) (x477 : Int) (k0 : Int → Int → Int → Int → Int → Int → Int → Bool → Option β) : Option β :=
    F13_2 A B N x465 x472 x473 x474 (fun y478 =>
    F13_2 A B N x465 x475 x476 x477 (fun y479 =>
      J7_4_0 A B N x465 x466 x467 x468 x469 x470 x471 x472 x473 x474 y478 y479 (fun y765 y766 y767 y768 y769 y770 y771 y772 =>
        k0 y765 y766 y767 y768 y769 y770 y771 y772)))

def P22 : List PT := [(.r (.i IntKind.i64)), (.r (.a [(.i IntKind.u8), (.i IntKind.u8), (.i IntKind.u8)])), (.r (.a [(.i IntKind.u8), (.i IntKind.u8), (.i IntKind.u8)])), .us 4, (.r (.i IntKind.i64)), (.r (.i IntKind.i64)), (.r (.i IntKind.i64)), (.r (.i IntKind.i64)), (.r (.i IntKind.i64)), (.r (.i IntKind.i64)), .us 101]

def MJ7_3_0 {β : Type} (A : Pr) (B : Pk) (N : Nat) (s : List T) : Option ((Ex → List T → Option β) → Option β) :=
  match gTs P22 s [] with
  | some [.i x465, .i x466, .i x467, .i x468, .i x469, .i x470, .i x471, .i x472, .i x473, .i x474, .i x475, .i x476, .i x477] => some fun kk => J7_3_0 A B N x465 x466 x467 x468 x469 x470 x471 x472 x473 x474 x475 x476 x477 (fun y773 y774 y775 y776 y777 y778 y779 y780 => uTs P19 [.i y773, .i y774, .i y775, .i y776, .i y777, .i y778, .i y779, .b y780] fun s _ => kk Ex.rt s)
  | _ => none

theorem ej7_3_0 {β : Type} (A : Pr) (B : Pk) (N : Nat) (x465 : Int) (x466 : Int) (x467 : Int) (x468 : Int) (x469 : Int) (x470 : Int) (x471 : Int) (x472 : Int) (x473 : Int) (x474 : Int) (x475 : Int) (x476 : Int) (x477 : Int) (kk : Ex → List T → Option β) :
    uTs P22 [.i x465, .i x466, .i x467, .i x468, .i x469, .i x470, .i x471, .i x472, .i x473, .i x474, .i x475, .i x476, .i x477] (fun s _ => evK (mkK Go.Proofs.Try.prog A B [(13, M13_2 A B N)] [] (Go.Proofs.Ytcapaihnachkhaa.Hn 7).pt [(4, MJ7_4_0 A B N)]) Y7_3 s (fun e s' => kk e (ptEnd (Go.Proofs.Ytcapaihnachkhaa.Hn 7).pt (firstReg Y7_3) s'))) = J7_3_0 A B N x465 x466 x467 x468 x469 x470 x471 x472 x473 x474 x475 x476 x477 (fun y773 y774 y775 y776 y777 y778 y779 y780 => uTs P19 [.i y773, .i y774, .i y775, .i y776, .i y777, .i y778, .i y779, .b y780] fun s _ => kk Ex.rt s) := by kernel_rfl

theorem oj7_3_0 {β : Type} (N : Nat) : SndJ (β := β) Go.Proofs.Try.prog Go.Proofs.Ytcapaihnachkhaa.Hn (Go.Proofs.Ytcapaihnachkhaa.Hn 7) Y7_3 (MJ7_3_0 re rk N) := by
  intro s h kk r ha hr
  unfold MJ7_3_0 at ha
  split at ha
  · rename_i hs
    cases ha
    have hk := via_pat hs ((ej7_3_0 re rk N _ _ _ _ _ _ _ _ _ _ _ _ _ kk).trans hr)
    exact join_ok (show SndAll Go.Proofs.Try.prog Go.Proofs.Ytcapaihnachkhaa.Hn [(13, M13_2 re rk N)] from ⟨o13_2 N, trivial⟩) (spots := [.pt Y7_4]) (by kernel_rfl) ⟨cut_pt (id := 4) j7_4 (oj7_4_0 N) (fun s kk => by kernel_rfl), trivial⟩ hk
  · cases ha

def J7_2_0 {β : Type} (A : Pr) (B : Pk) (N : Nat) (x452 : Int) (x453 : Int) (x454 : Int) (x455 : Int) (x456 : Int) (x457 : Int) (x458 : Int) (x459 : Int) (x460 : Int) (x461 : Int) (x462 : Int) (x463 : Int) (x464 : Int) (k0 : Int → Int → Int → Int → Int → Int → Int → Bool → Option β) : Option β :=
    match (A.nz 5) with
    | true => none
    | false => (match (A.nz 5) with
      | true => none
      | false => (match (A.nz 7) with
        | true => none
        | false => (J7_3_0 A B N x452 x453 x454 x455 x456 x457 x458 x462 x463 x464 (A.ar BinOp.add IntKind.i64 x462 (A.ar BinOp.rem IntKind.i64 (A.cv IntKind.i64 x459) 5)) (A.ar BinOp.add IntKind.i64 x463 (A.ar BinOp.rem IntKind.i64 (A.cv IntKind.i64 x460) 5)) (A.ar BinOp.add IntKind.i64 x464 (A.ar BinOp.rem IntKind.i64 (A.cv IntKind.i64 x461) 7)) (fun y781 y782 y783 y784 y785 y786 y787 y788 =>
          k0 y781 y782 y783 y784 y785 y786 y787 y788))))

def P23 : List PT := [(.r (.i IntKind.i64)), (.r (.a [(.i IntKind.u8), (.i IntKind.u8), (.i IntKind.u8)])), (.r (.a [(.i IntKind.u8), (.i IntKind.u8), (.i IntKind.u8)])), .us 2, (.bx [(.r (.i IntKind.u8)), (.r (.i IntKind.u8)), (.r (.i IntKind.u8))]), .us 1, (.r (.i IntKind.i64)), (.r (.i IntKind.i64)), (.r (.i IntKind.i64)), .us 104]

def MJ7_2_0 {β : Type} (A : Pr) (B : Pk) (N : Nat) (s : List T) : Option ((Ex → List T → Option β) → Option β) :=
  match gTs P23 s [] with
  | some [.i x452, .i x453, .i x454, .i x455, .i x456, .i x457, .i x458, .i x459, .i x460, .i x461, .i x462, .i x463, .i x464] => some fun kk => J7_2_0 A B N x452 x453 x454 x455 x456 x457 x458 x459 x460 x461 x462 x463 x464 (fun y789 y790 y791 y792 y793 y794 y795 y796 => uTs P19 [.i y789, .i y790, .i y791, .i y792, .i y793, .i y794, .i y795, .b y796] fun s _ => kk Ex.rt s)
  | _ => none

theorem ej7_2_0 {β : Type} (A : Pr) (B : Pk) (N : Nat) (x452 : Int) (x453 : Int) (x454 : Int) (x455 : Int) (x456 : Int) (x457 : Int) (x458 : Int) (x459 : Int) (x460 : Int) (x461 : Int) (x462 : Int) (x463 : Int) (x464 : Int) (kk : Ex → List T → Option β) :
    uTs P23 [.i x452, .i x453, .i x454, .i x455, .i x456, .i x457, .i x458, .i x459, .i x460, .i x461, .i x462, .i x463, .i x464] (fun s _ => evK (mkK Go.Proofs.Try.prog A B [] [] (Go.Proofs.Ytcapaihnachkhaa.Hn 7).pt [(3, MJ7_3_0 A B N)]) Y7_2 s (fun e s' => kk e (ptEnd (Go.Proofs.Ytcapaihnachkhaa.Hn 7).pt (firstReg Y7_2) s'))) = J7_2_0 A B N x452 x453 x454 x455 x456 x457 x458 x459 x460 x461 x462 x463 x464 (fun y789 y790 y791 y792 y793 y794 y795 y796 => uTs P19 [.i y789, .i y790, .i y791, .i y792, .i y793, .i y794, .i y795, .b y796] fun s _ => kk Ex.rt s) := by kernel_rfl

theorem oj7_2_0 {β : Type} (N : Nat) : SndJ (β := β) Go.Proofs.Try.prog Go.Proofs.Ytcapaihnachkhaa.Hn (Go.Proofs.Ytcapaihnachkhaa.Hn 7) Y7_2 (MJ7_2_0 re rk N) := by
  intro s h kk r ha hr
  unfold MJ7_2_0 at ha
  split at ha
  · rename_i hs
    cases ha
    have hk := via_pat hs ((ej7_2_0 re rk N _ _ _ _ _ _ _ _ _ _ _ _ _ kk).trans hr)
    exact join_ok (show SndAll Go.Proofs.Try.prog Go.Proofs.Ytcapaihnachkhaa.Hn [] from trivial) (spots := [.pt Y7_3]) (by kernel_rfl) ⟨cut_pt (id := 3) j7_3 (oj7_3_0 N) (fun s kk => by kernel_rfl), trivial⟩ hk
  · cases ha

def F7_8 {β : Type} (A : Pr) (B : Pk) (N : Nat) (x445 : Int) (x446 : Int) (x447 : Int) (x448 : Int) (x449 : Int) (x450 : Int) (x451 : Int) (k0 : Bool → Option β) : Option β :=
    match (A.nz 5) with
    | true => none
    | false => (match (A.nz 5) with
      | true => none
      | false => (match (A.nz 7) with
        | true => none
        | false => (J7_2_0 A B N x445 x446 x447 x448 x449 x450 x451 x449 x450 x451 (A.ar BinOp.rem IntKind.i64 (A.cv IntKind.i64 x446) 5) (A.ar BinOp.rem IntKind.i64 (A.cv IntKind.i64 x447) 5) (A.ar BinOp.rem IntKind.i64 (A.cv IntKind.i64 x448) 7) (fun y797 y798 y799 y800 y801 y802 y803 y804 =>
          k0 y804))))

def P24 : List PT := [(.r (.i IntKind.i64)), (.r (.a [(.i IntKind.u8), (.i IntKind.u8), (.i IntKind.u8)])), (.r (.a [(.i IntKind.u8), (.i IntKind.u8), (.i IntKind.u8)]))]

def M7_8 {β : Type} (A : Pr) (B : Pk) (N : Nat) (a : List T) : Option ((T → List (List T) → Option β) → Option β) :=
  match gTs P24 a [] with
  | some [.i x445, .i x446, .i x447, .i x448, .i x449, .i x450, .i x451] => some fun kk => F7_8 A B N x445 x446 x447 x448 x449 x450 x451 (fun y805 => kk (T.r (R.b y805)) [])
  | _ => none

theorem e7_8 {β : Type} (A : Pr) (B : Pk) (N : Nat) (x445 : Int) (x446 : Int) (x447 : Int) (x448 : Int) (x449 : Int) (x450 : Int) (x451 : Int) (kk : T → List (List T) → Option β) :
    uTs P24 [.i x445, .i x446, .i x447, .i x448, .i x449, .i x450, .i x451] (fun a _ => bodyK (mkK Go.Proofs.Try.prog A B [] [] (Go.Proofs.Ytcapaihnachkhaa.Hn 7).pt [(2, MJ7_2_0 A B N)]) Go.Proofs.Try.f7 a kk) = F7_8 A B N x445 x446 x447 x448 x449 x450 x451 (fun y805 => kk (T.r (R.b y805)) []) := by kernel_rfl

theorem o7_8 {β : Type} (N : Nat) : Snd (β := β) Go.Proofs.Try.prog Go.Proofs.Ytcapaihnachkhaa.Hn 7 (M7_8 re rk N) := by
  intro a h kk r ha hr
  unfold M7_8 at ha
  split at ha
  · rename_i hs
    cases ha
    have hk := via_pat hs ((e7_8 re rk N _ _ _ _ _ _ _ kk).trans hr)
    exact fn_ok (f := 7) (fn := Go.Proofs.Try.f7) (H := Go.Proofs.Ytcapaihnachkhaa.Hn) (by kernel_rfl) (show SndAll Go.Proofs.Try.prog Go.Proofs.Ytcapaihnachkhaa.Hn [] from trivial) (spots := [.pt Y7_2]) (by kernel_rfl) ⟨cut_pt (id := 2) j7_2 (oj7_2_0 N) (fun s kk => by kernel_rfl), trivial⟩ hk
  · cases ha

end
