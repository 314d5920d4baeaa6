/-
  The functions' trees, printed by a program of ours.
-/
import Derived.Test.YtcapaihnachkhaaH3
set_option linter.unusedVariables false
set_option maxRecDepth 100000
namespace Go.Proofs.Ytcapaihnachkhaa
open Go.Os
section
def G65_4 {β : Type} (A : Pr) (B : Pk)  (x65 : Int) (x66 : Int) (x67 : Int) (x68 : Int) (k0 : Bool → Option β) : Option β :=
    match (A.cm BinOp.leq 0 x65) with
    | true => (match (A.cm BinOp.leq x65 x67) with
      | true => (match (A.cm BinOp.leq x67 4096) with
        | true => (match (A.cm BinOp.leq 0 x66) with
          | true => (match (A.cm BinOp.leq x66 x68) with
            | true => (k0 (A.cm BinOp.leq x68 4096))
            | false => (k0 Bool.false))
          | false => (k0 Bool.false))
        | false => (k0 Bool.false))
      | false => (k0 Bool.false))
    | false => (k0 Bool.false)

def F65_4 {β : Type} (A : Pr) (B : Pk) (N : Nat) (x65 : Int) (x66 : Int) (x67 : Int) (x68 : Int) (k0 : Bool → Option β) : Option β :=
  G65_4 A B  x65 x66 x67 x68 k0

def P0 : List PT := [(.r (.a [(.i IntKind.i64), (.i IntKind.i64), (.i IntKind.i64), (.i IntKind.i64)]))]

def M65_4 {β : Type} (f65_4 : Int → Int → Int → Int → (Bool → Option β) → Option β) (a : List T) : Option ((T → List (List T) → Option β) → Option β) :=
  match gTs P0 a [] with
  | some [.i x65, .i x66, .i x67, .i x68] => some fun kk => f65_4 x65 x66 x67 x68 (fun y69 => kk (T.r (R.b y69)) [])
  | _ => none

theorem e65_4 {β : Type} (A : Pr) (B : Pk)  (x65 : Int) (x66 : Int) (x67 : Int) (x68 : Int) (kk : T → List (List T) → Option β) :
    uTs P0 [.i x65, .i x66, .i x67, .i x68] (fun a _ => bodyK (mkK Go.Proofs.Try.prog A B [] [] (Go.Proofs.Ytcapaihnachkhaa.Hn 65).pt []) Go.Proofs.Try.f65 a kk) = G65_4 A B  x65 x66 x67 x68 (fun y69 => kk (T.r (R.b y69)) []) := by kernel_rfl

theorem o65_4 {β : Type} (N : Nat) : Snd (β := β) Go.Proofs.Try.prog Go.Proofs.Ytcapaihnachkhaa.Hn 65 (M65_4 (F65_4 re rk N)) := by
  intro a h kk r ha hr
  unfold M65_4 at ha
  split at ha
  · rename_i hs
    cases ha
    have hk := via_pat hs ((e65_4 re rk  _ _ _ _ kk).trans hr)
    exact fn_ok (f := 65) (fn := Go.Proofs.Try.f65) (H := Go.Proofs.Ytcapaihnachkhaa.Hn) (by kernel_rfl) (show SndAll Go.Proofs.Try.prog Go.Proofs.Ytcapaihnachkhaa.Hn [] from trivial) (spots := []) (by kernel_rfl) trivial hk
  · cases ha

def G66_5 {β : Type} (A : Pr) (B : Pk)  (x71 : Int) (x72 : Int) (x73 : Int) (x74 : Int) (k0 : Bool → Option β) : Option β :=
    match (A.cm BinOp.geq x71 x73) with
    | true => (k0 Bool.true)
    | false => (k0 (A.cm BinOp.geq x72 x74))

def F66_5 {β : Type} (A : Pr) (B : Pk) (N : Nat) (x71 : Int) (x72 : Int) (x73 : Int) (x74 : Int) (k0 : Bool → Option β) : Option β :=
  G66_5 A B  x71 x72 x73 x74 k0

def M66_5 {β : Type} (f66_5 : Int → Int → Int → Int → (Bool → Option β) → Option β) (a : List T) : Option ((T → List (List T) → Option β) → Option β) :=
  match gTs P0 a [] with
  | some [.i x71, .i x72, .i x73, .i x74] => some fun kk => f66_5 x71 x72 x73 x74 (fun y75 => kk (T.r (R.b y75)) [])
  | _ => none

theorem e66_5 {β : Type} (A : Pr) (B : Pk)  (x71 : Int) (x72 : Int) (x73 : Int) (x74 : Int) (kk : T → List (List T) → Option β) :
    uTs P0 [.i x71, .i x72, .i x73, .i x74] (fun a _ => bodyK (mkK Go.Proofs.Try.prog A B [] [] (Go.Proofs.Ytcapaihnachkhaa.Hn 66).pt []) Go.Proofs.Try.f66 a kk) = G66_5 A B  x71 x72 x73 x74 (fun y75 => kk (T.r (R.b y75)) []) := by kernel_rfl

theorem o66_5 {β : Type} (N : Nat) : Snd (β := β) Go.Proofs.Try.prog Go.Proofs.Ytcapaihnachkhaa.Hn 66 (M66_5 (F66_5 re rk N)) := by
  intro a h kk r ha hr
  unfold M66_5 at ha
  split at ha
  · rename_i hs
    cases ha
    have hk := via_pat hs ((e66_5 re rk  _ _ _ _ kk).trans hr)
    exact fn_ok (f := 66) (fn := Go.Proofs.Try.f66) (H := Go.Proofs.Ytcapaihnachkhaa.Hn) (by kernel_rfl) (show SndAll Go.Proofs.Try.prog Go.Proofs.Ytcapaihnachkhaa.Hn [] from trivial) (spots := []) (by kernel_rfl) trivial hk
  · cases ha

def G77_6 {β : Type} (A : Pr) (B : Pk)  (x77 : Int) (x78 : Int) (x79 : Int) (k0 : Bool → Option β) : Option β :=
    match (A.cm BinOp.leq x78 x77) with
    | true => (k0 (A.cm BinOp.leq x77 x79))
    | false => (k0 Bool.false)

def F77_6 {β : Type} (A : Pr) (B : Pk) (N : Nat) (x77 : Int) (x78 : Int) (x79 : Int) (k0 : Bool → Option β) : Option β :=
  G77_6 A B  x77 x78 x79 k0

def P1 : List PT := [(.r (.i IntKind.i64)), (.r (.i IntKind.i64)), (.r (.i IntKind.i64))]

def M77_6 {β : Type} (f77_6 : Int → Int → Int → (Bool → Option β) → Option β) (a : List T) : Option ((T → List (List T) → Option β) → Option β) :=
  match gTs P1 a [] with
  | some [.i x77, .i x78, .i x79] => some fun kk => f77_6 x77 x78 x79 (fun y80 => kk (T.r (R.b y80)) [])
  | _ => none

theorem e77_6 {β : Type} (A : Pr) (B : Pk)  (x77 : Int) (x78 : Int) (x79 : Int) (kk : T → List (List T) → Option β) :
    uTs P1 [.i x77, .i x78, .i x79] (fun a _ => bodyK (mkK Go.Proofs.Try.prog A B [] [] (Go.Proofs.Ytcapaihnachkhaa.Hn 77).pt []) Go.Proofs.Try.f77 a kk) = G77_6 A B  x77 x78 x79 (fun y80 => kk (T.r (R.b y80)) []) := by kernel_rfl

theorem o77_6 {β : Type} (N : Nat) : Snd (β := β) Go.Proofs.Try.prog Go.Proofs.Ytcapaihnachkhaa.Hn 77 (M77_6 (F77_6 re rk N)) := by
  intro a h kk r ha hr
  unfold M77_6 at ha
  split at ha
  · rename_i hs
    cases ha
    have hk := via_pat hs ((e77_6 re rk  _ _ _ kk).trans hr)
    exact fn_ok (f := 77) (fn := Go.Proofs.Try.f77) (H := Go.Proofs.Ytcapaihnachkhaa.Hn) (by kernel_rfl) (show SndAll Go.Proofs.Try.prog Go.Proofs.Ytcapaihnachkhaa.Hn [] from trivial) (spots := []) (by kernel_rfl) trivial hk
  · cases ha

def G80_8 {β : Type} (A : Pr) (B : Pk)  (x103 : Int) (x104 : Int) (k0 : Int → Option β) : Option β :=
    match (A.cm BinOp.lss x104 1) with
    | true => (k0 0)
    | false => (match (A.nz x104) with
      | true => none
      | false => (match (A.nz x104) with
        | true => none
        | false => (match (A.cm BinOp.gtr (A.ar BinOp.rem IntKind.i64 x103 x104) 0) with
          | true => (k0 (A.ar BinOp.add IntKind.i64 (A.ar BinOp.quo IntKind.i64 x103 x104) 1))
          | false => (k0 (A.ar BinOp.quo IntKind.i64 x103 x104)))))

def F80_8 {β : Type} (A : Pr) (B : Pk) (N : Nat) (x103 : Int) (x104 : Int) (k0 : Int → Option β) : Option β :=
  G80_8 A B  x103 x104 k0

def P2 : List PT := [(.r (.i IntKind.i64)), (.r (.i IntKind.i64))]

def M80_8 {β : Type} (f80_8 : Int → Int → (Int → Option β) → Option β) (a : List T) : Option ((T → List (List T) → Option β) → Option β) :=
  match gTs P2 a [] with
  | some [.i x103, .i x104] => some fun kk => f80_8 x103 x104 (fun y105 => kk (T.r (R.i IntKind.i64 y105)) [])
  | _ => none

theorem e80_8 {β : Type} (A : Pr) (B : Pk)  (x103 : Int) (x104 : Int) (kk : T → List (List T) → Option β) :
    uTs P2 [.i x103, .i x104] (fun a _ => bodyK (mkK Go.Proofs.Try.prog A B [] [] (Go.Proofs.Ytcapaihnachkhaa.Hn 80).pt []) Go.Proofs.Try.f80 a kk) = G80_8 A B  x103 x104 (fun y105 => kk (T.r (R.i IntKind.i64 y105)) []) := by kernel_rfl

theorem o80_8 {β : Type} (N : Nat) : Snd (β := β) Go.Proofs.Try.prog Go.Proofs.Ytcapaihnachkhaa.Hn 80 (M80_8 (F80_8 re rk N)) := by
  intro a h kk r ha hr
  unfold M80_8 at ha
  split at ha
  · rename_i hs
    cases ha
    have hk := via_pat hs ((e80_8 re rk  _ _ kk).trans hr)
    exact fn_ok (f := 80) (fn := Go.Proofs.Try.f80) (H := Go.Proofs.Ytcapaihnachkhaa.Hn) (by kernel_rfl) (show SndAll Go.Proofs.Try.prog Go.Proofs.Ytcapaihnachkhaa.Hn [] from trivial) (spots := []) (by kernel_rfl) trivial hk
  · cases ha

def G51_7 {β : Type} (A : Pr) (B : Pk) (f65_4 : Int → Int → Int → Int → (Bool → Option β) → Option β) (f80_8 : Int → Int → (Int → Option β) → Option β) (x96 : Int) (x97 : Int) (x98 : Int) (x99 : Int) (x100 : Int) (x101 : Int) (k0 : Int → Int → Int → Int → Option β) : Option β :=
    f65_4 x96 x97 x98 x99 (fun y102 =>
    match (A.bn y102) with
      | true => (k0 0 0 0 0)
      | false => (match (A.cm BinOp.lss x100 1) with
        | true => (k0 0 0 0 0)
        | false => (match (A.cm BinOp.gtr x100 4096) with
          | true => (k0 0 0 0 0)
          | false => (match (A.cm BinOp.lss x101 1) with
            | true => (k0 0 0 0 0)
            | false => (match (A.cm BinOp.gtr x101 4096) with
              | true => (k0 0 0 0 0)
              | false => (f80_8 x96 x100 (fun y106 =>
                f80_8 x97 x101 (fun y107 =>
                  f80_8 x98 x100 (fun y108 =>
                    f80_8 x99 x101 (fun y109 =>
                      k0 y106 y107 y108 y109))))))))))

def F51_7 {β : Type} (A : Pr) (B : Pk) (N : Nat) (x96 : Int) (x97 : Int) (x98 : Int) (x99 : Int) (x100 : Int) (x101 : Int) (k0 : Int → Int → Int → Int → Option β) : Option β :=
  G51_7 A B (F65_4 A B N) (F80_8 A B N) x96 x97 x98 x99 x100 x101 k0

def P3 : List PT := [(.r (.a [(.i IntKind.i64), (.i IntKind.i64), (.i IntKind.i64), (.i IntKind.i64)])), (.r (.i IntKind.i64)), (.r (.i IntKind.i64))]

def M51_7 {β : Type} (f51_7 : Int → Int → Int → Int → Int → Int → (Int → Int → Int → Int → Option β) → Option β) (a : List T) : Option ((T → List (List T) → Option β) → Option β) :=
  match gTs P3 a [] with
  | some [.i x96, .i x97, .i x98, .i x99, .i x100, .i x101] => some fun kk => f51_7 x96 x97 x98 x99 x100 x101 (fun y110 y111 y112 y113 => kk (T.r (R.a [(R.i IntKind.i64 y110), (R.i IntKind.i64 y111), (R.i IntKind.i64 y112), (R.i IntKind.i64 y113)])) [])
  | _ => none

theorem e51_7 {β : Type} (A : Pr) (B : Pk) (f65_4 : Int → Int → Int → Int → (Bool → Option β) → Option β) (f80_8 : Int → Int → (Int → Option β) → Option β) (x96 : Int) (x97 : Int) (x98 : Int) (x99 : Int) (x100 : Int) (x101 : Int) (kk : T → List (List T) → Option β) :
    uTs P3 [.i x96, .i x97, .i x98, .i x99, .i x100, .i x101] (fun a _ => bodyK (mkK Go.Proofs.Try.prog A B [(65, M65_4 f65_4), (80, M80_8 f80_8)] [] (Go.Proofs.Ytcapaihnachkhaa.Hn 51).pt []) Go.Proofs.Try.f51 a kk) = G51_7 A B f65_4 f80_8 x96 x97 x98 x99 x100 x101 (fun y110 y111 y112 y113 => kk (T.r (R.a [(R.i IntKind.i64 y110), (R.i IntKind.i64 y111), (R.i IntKind.i64 y112), (R.i IntKind.i64 y113)])) []) := by kernel_rfl

theorem o51_7 {β : Type} (N : Nat) : Snd (β := β) Go.Proofs.Try.prog Go.Proofs.Ytcapaihnachkhaa.Hn 51 (M51_7 (F51_7 re rk N)) := by
  intro a h kk r ha hr
  unfold M51_7 at ha
  split at ha
  · rename_i hs
    cases ha
    have hk := via_pat hs ((e51_7 re rk (F65_4 re rk N) (F80_8 re rk N) _ _ _ _ _ _ kk).trans hr)
    exact fn_ok (f := 51) (fn := Go.Proofs.Try.f51) (H := Go.Proofs.Ytcapaihnachkhaa.Hn) (by kernel_rfl) (show SndAll Go.Proofs.Try.prog Go.Proofs.Ytcapaihnachkhaa.Hn [(65, M65_4 (F65_4 re rk N)), (80, M80_8 (F80_8 re rk N))] from ⟨o65_4 N, o80_8 N, trivial⟩) (spots := []) (by kernel_rfl) trivial hk
  · cases ha

noncomputable def X49_4 : Code := atF Go.Proofs.Try.f49 [true, true, false, true, false, false]
theorem i49_4 : firstReg X49_4 = 4 := by kernel_rfl

def GL49_4_0 {β : Type} (A : Pr) (B : Pk) (f77_6 : Int → Int → Int → (Bool → Option β) → Option β) (f51_7 : Int → Int → Int → Int → Int → Int → (Int → Int → Int → Int → Option β) → Option β) (f66_5 : Int → Int → Int → Int → (Bool → Option β) → Option β) (l49_4_0 : (Int → Int → Int → Int → Int → Int → List R → Int → Option β) → (Int → Int → Int → Int → Int → Int → List R → Option β) → Int → Int → Int → Int → Int → Int → List R → Int → Option β) (k0 : Int → Int → Int → Int → Int → Int → List R → Int → Option β) (k1 : Int → Int → Int → Int → Int → Int → List R → Option β) (x84 : Int) (x85 : Int) (x86 : Int) (x87 : Int) (x88 : Int) (x89 : Int) (x90 : List R) (x91 : Int) : Option β :=
    match (A.cm BinOp.lss x91 (A.on (A.len x90))) with
    | true => (match (A.ix x91 (A.len x90)) with
      | some i92 => (match (B.okE [(Sh.i IntKind.i64), Sh.b, (Sh.i IntKind.i64), (Sh.i IntKind.i64)] Bool.true x90 i92) with
        | true => (f77_6 (B.ci x90 i92 0) 1 16 (fun y93 =>
          match (A.bn y93) with
            | true => (k0 x84 x85 x86 x87 x88 x89 x90 12)
            | false => (f77_6 (B.ci x90 i92 2) 1 4 (fun y94 =>
              match (A.bn y94) with
                | true => (k0 x84 x85 x86 x87 x88 x89 x90 12)
                | false => (f77_6 (B.ci x90 i92 3) 1 4 (fun y95 =>
                  match (A.bn y95) with
                    | true => (k0 x84 x85 x86 x87 x88 x89 x90 12)
                    | false => (f51_7 x84 x85 x86 x87 (B.ci x90 i92 2) (B.ci x90 i92 3) (fun y114 y115 y116 y117 =>
                      f66_5 y114 y115 y116 y117 (fun y118 =>
                        match y118 with
                          | true => (k0 x84 x85 x86 x87 x88 x89 x90 12)
                          | false => (l49_4_0 k0 k1 x84 x85 x86 x87 x88 x89 x90 (A.ar BinOp.add IntKind.i64 x91 1)))))))))))
        | false => none)
      | none => none)
    | false => (k1 x84 x85 x86 x87 x88 x89 x90)

def L49_4_0 {β : Type} (A : Pr) (B : Pk) (N : Nat) : Nat → (Int → Int → Int → Int → Int → Int → List R → Int → Option β) → (Int → Int → Int → Int → Int → Int → List R → Option β) → Int → Int → Int → Int → Int → Int → List R → Int → Option β
  | 0, _, _, _, _, _, _, _, _, _, _ => none
  | n + 1, k0, k1, x84, x85, x86, x87, x88, x89, x90, x91 =>
    GL49_4_0 A B (F77_6 A B N) (F51_7 A B N) (F66_5 A B N) (L49_4_0 A B N n) k0 k1 x84 x85 x86 x87 x88 x89 x90 x91

def P4 : List PT := [.us 1, (.bx [(.r (.i IntKind.i64)), (.r (.i IntKind.i64)), (.r (.i IntKind.i64)), (.r (.i IntKind.i64)), (.r (.i IntKind.i64)), (.r (.i IntKind.i64)), (.r (.ro 4))]), (.r (.i IntKind.i64)), .us 94]

def P5 : List PT := [.us 1, (.bx [(.r (.i IntKind.i64)), (.r (.i IntKind.i64)), (.r (.i IntKind.i64)), (.r (.i IntKind.i64)), (.r (.i IntKind.i64)), (.r (.i IntKind.i64)), (.r (.ro 4))]), .us 95]

def P6 : List PT := [.us 1, (.bx [(.r (.i IntKind.i64)), (.r (.i IntKind.i64)), (.r (.i IntKind.i64)), (.r (.i IntKind.i64)), (.r (.i IntKind.i64)), (.r (.i IntKind.i64)), (.r (.ro 4))]), .us 1, (.r (.i IntKind.i64)), .us 93]

noncomputable def M49_4 {β : Type} (l49_4_0 : (Int → Int → Int → Int → Int → Int → List R → Int → Option β) → (Int → Int → Int → Int → Int → Int → List R → Option β) → Int → Int → Int → Int → Int → Int → List R → Int → Option β) (s : List T) : Option ((Ex → List T → Option β) → Option β) :=
  match gTs P6 (clean ((Go.Proofs.Ytcapaihnachkhaa.Hn 49).lp 4).1 s) [] with
  | some [.i x84, .i x85, .i x86, .i x87, .i x88, .i x89, .l x90, .i x91] => some fun kk => l49_4_0 (fun y119 y120 y121 y122 y123 y124 y125 y126 => uTs P4 [.i y119, .i y120, .i y121, .i y122, .i y123, .i y124, .l y125, .i y126] fun s _ => kk Ex.rt s) (fun y127 y128 y129 y130 y131 y132 y133 => uTs P5 [.i y127, .i y128, .i y129, .i y130, .i y131, .i y132, .l y133] fun s _ => kk (Ex.ex 0) s) x84 x85 x86 x87 x88 x89 x90 x91
  | _ => none

theorem e49_4_0 {β : Type} (A : Pr) (B : Pk) (f77_6 : Int → Int → Int → (Bool → Option β) → Option β) (f51_7 : Int → Int → Int → Int → Int → Int → (Int → Int → Int → Int → Option β) → Option β) (f66_5 : Int → Int → Int → Int → (Bool → Option β) → Option β) (l49_4_0 : (Int → Int → Int → Int → Int → Int → List R → Int → Option β) → (Int → Int → Int → Int → Int → Int → List R → Option β) → Int → Int → Int → Int → Int → Int → List R → Int → Option β) (x84 : Int) (x85 : Int) (x86 : Int) (x87 : Int) (x88 : Int) (x89 : Int) (x90 : List R) (x91 : Int) (kk : Ex → List T → Option β) :
    uTs P6 [.i x84, .i x85, .i x86, .i x87, .i x88, .i x89, .l x90, .i x91] (fun s _ => evK (mkK Go.Proofs.Try.prog A B [(77, M77_6 f77_6), (51, M51_7 f51_7), (66, M66_5 f66_5)] [] (Go.Proofs.Ytcapaihnachkhaa.Hn 49).pt []) X49_4 s (fun e s' => match e with
      | .nm => (match M49_4 l49_4_0 s' with | some h => h kk | none => none)
      | .ex m => kk (.ex m) (clean ((Go.Proofs.Ytcapaihnachkhaa.Hn 49).lp (firstReg X49_4)).2 s')
      | .rt => kk .rt (clean ((Go.Proofs.Ytcapaihnachkhaa.Hn 49).lp (firstReg X49_4)).2 s'))) = GL49_4_0 A B f77_6 f51_7 f66_5 l49_4_0 (fun y119 y120 y121 y122 y123 y124 y125 y126 => uTs P4 [.i y119, .i y120, .i y121, .i y122, .i y123, .i y124, .l y125, .i y126] fun s _ => kk Ex.rt s) (fun y127 y128 y129 y130 y131 y132 y133 => uTs P5 [.i y127, .i y128, .i y129, .i y130, .i y131, .i y132, .l y133] fun s _ => kk (Ex.ex 0) s) x84 x85 x86 x87 x88 x89 x90 x91 := by kernel_rfl

theorem ol49_4 {β : Type} (N : Nat) : ∀ n, SndL (β := β) Go.Proofs.Try.prog Go.Proofs.Ytcapaihnachkhaa.Hn (Go.Proofs.Ytcapaihnachkhaa.Hn 49) X49_4 (M49_4 (L49_4_0 re rk N n))
  | 0 => by
    intro s h kk r ha hr
    unfold M49_4 at ha
    split at ha
    · cases ha; cases hr
    · cases ha
  | n + 1 => by
    have ih := ol49_4 (β := β) N n
    intro s h kk r ha hr
    unfold M49_4 at ha
    split at ha
    · rename_i hs
      cases ha
      have hk := via_pat hs ((e49_4_0 re rk (F77_6 re rk N) (F51_7 re rk N) (F66_5 re rk N) (L49_4_0 re rk N n) _ _ _ _ _ _ _ _ kk).trans hr)
      exact round_ok (show SndAll Go.Proofs.Try.prog Go.Proofs.Ytcapaihnachkhaa.Hn [(77, M77_6 (F77_6 re rk N)), (51, M51_7 (F51_7 re rk N)), (66, M66_5 (F66_5 re rk N))] from ⟨o77_6 N, o51_7 N, o66_5 N, trivial⟩) (spots := []) (by kernel_rfl) trivial ih (hd := clean ((Go.Proofs.Ytcapaihnachkhaa.Hn 49).lp 4).1 s) (by rw [i49_4]) hk
    · cases ha

def G105_10 {β : Type} (A : Pr) (B : Pk)  (x173 : Int) (x174 : Int) (k0 : Int → Option β) : Option β :=
    match (A.cm BinOp.lss x174 1) with
    | true => (k0 0)
    | false => (match (A.nz x174) with
      | true => none
      | false => (match (A.nz x174) with
        | true => none
        | false => (match (A.cm BinOp.lss (A.ar BinOp.rem IntKind.i64 x173 x174) 0) with
          | true => (k0 (A.ar BinOp.sub IntKind.i64 (A.ar BinOp.quo IntKind.i64 x173 x174) 1))
          | false => (k0 (A.ar BinOp.quo IntKind.i64 x173 x174)))))

def F105_10 {β : Type} (A : Pr) (B : Pk) (N : Nat) (x173 : Int) (x174 : Int) (k0 : Int → Option β) : Option β :=
  G105_10 A B  x173 x174 k0

def M105_10 {β : Type} (f105_10 : Int → Int → (Int → Option β) → Option β) (a : List T) : Option ((T → List (List T) → Option β) → Option β) :=
  match gTs P2 a [] with
  | some [.i x173, .i x174] => some fun kk => f105_10 x173 x174 (fun y175 => kk (T.r (R.i IntKind.i64 y175)) [])
  | _ => none

theorem e105_10 {β : Type} (A : Pr) (B : Pk)  (x173 : Int) (x174 : Int) (kk : T → List (List T) → Option β) :
    uTs P2 [.i x173, .i x174] (fun a _ => bodyK (mkK Go.Proofs.Try.prog A B [] [] (Go.Proofs.Ytcapaihnachkhaa.Hn 105).pt []) Go.Proofs.Try.f105 a kk) = G105_10 A B  x173 x174 (fun y175 => kk (T.r (R.i IntKind.i64 y175)) []) := by kernel_rfl

theorem o105_10 {β : Type} (N : Nat) : Snd (β := β) Go.Proofs.Try.prog Go.Proofs.Ytcapaihnachkhaa.Hn 105 (M105_10 (F105_10 re rk N)) := by
  intro a h kk r ha hr
  unfold M105_10 at ha
  split at ha
  · rename_i hs
    cases ha
    have hk := via_pat hs ((e105_10 re rk  _ _ kk).trans hr)
    exact fn_ok (f := 105) (fn := Go.Proofs.Try.f105) (H := Go.Proofs.Ytcapaihnachkhaa.Hn) (by kernel_rfl) (show SndAll Go.Proofs.Try.prog Go.Proofs.Ytcapaihnachkhaa.Hn [] from trivial) (spots := []) (by kernel_rfl) trivial hk
  · cases ha

def G78_9 {β : Type} (A : Pr) (B : Pk) (f80_8 : Int → Int → (Int → Option β) → Option β) (f105_10 : Int → Int → (Int → Option β) → Option β) (x165 : Int) (x166 : Int) (x167 : Int) (x168 : Int) (x169 : Int) (x170 : Int) (x171 : List R) (k0 : Int → Option β) : Option β :=
    f80_8 x167 x169 (fun y172 =>
    f105_10 x165 x169 (fun y176 =>
      f80_8 x168 x170 (fun y177 =>
        f105_10 x166 x170 (fun y178 =>
          k0 (A.ar BinOp.mul IntKind.i64 (A.ar BinOp.sub IntKind.i64 y172 y176) (A.ar BinOp.sub IntKind.i64 y177 y178))))))

def F78_9 {β : Type} (A : Pr) (B : Pk) (N : Nat) (x165 : Int) (x166 : Int) (x167 : Int) (x168 : Int) (x169 : Int) (x170 : Int) (x171 : List R) (k0 : Int → Option β) : Option β :=
  G78_9 A B (F80_8 A B N) (F105_10 A B N) x165 x166 x167 x168 x169 x170 x171 k0

def P7 : List PT := [(.r (.a [(.i IntKind.i64), (.i IntKind.i64), (.i IntKind.i64), (.i IntKind.i64), (.i IntKind.i64), (.i IntKind.i64), (.ro 4)]))]

def M78_9 {β : Type} (f78_9 : Int → Int → Int → Int → Int → Int → List R → (Int → Option β) → Option β) (a : List T) : Option ((T → List (List T) → Option β) → Option β) :=
  match gTs P7 a [] with
  | some [.i x165, .i x166, .i x167, .i x168, .i x169, .i x170, .l x171] => some fun kk => f78_9 x165 x166 x167 x168 x169 x170 x171 (fun y179 => kk (T.r (R.i IntKind.i64 y179)) [])
  | _ => none

theorem e78_9 {β : Type} (A : Pr) (B : Pk) (f80_8 : Int → Int → (Int → Option β) → Option β) (f105_10 : Int → Int → (Int → Option β) → Option β) (x165 : Int) (x166 : Int) (x167 : Int) (x168 : Int) (x169 : Int) (x170 : Int) (x171 : List R) (kk : T → List (List T) → Option β) :
    uTs P7 [.i x165, .i x166, .i x167, .i x168, .i x169, .i x170, .l x171] (fun a _ => bodyK (mkK Go.Proofs.Try.prog A B [(80, M80_8 f80_8), (105, M105_10 f105_10)] [] (Go.Proofs.Ytcapaihnachkhaa.Hn 78).pt []) Go.Proofs.Try.f78 a kk) = G78_9 A B f80_8 f105_10 x165 x166 x167 x168 x169 x170 x171 (fun y179 => kk (T.r (R.i IntKind.i64 y179)) []) := by kernel_rfl

theorem o78_9 {β : Type} (N : Nat) : Snd (β := β) Go.Proofs.Try.prog Go.Proofs.Ytcapaihnachkhaa.Hn 78 (M78_9 (F78_9 re rk N)) := by
  intro a h kk r ha hr
  unfold M78_9 at ha
  split at ha
  · rename_i hs
    cases ha
    have hk := via_pat hs ((e78_9 re rk (F80_8 re rk N) (F105_10 re rk N) _ _ _ _ _ _ _ kk).trans hr)
    exact fn_ok (f := 78) (fn := Go.Proofs.Try.f78) (H := Go.Proofs.Ytcapaihnachkhaa.Hn) (by kernel_rfl) (show SndAll Go.Proofs.Try.prog Go.Proofs.Ytcapaihnachkhaa.Hn [(80, M80_8 (F80_8 re rk N)), (105, M105_10 (F105_10 re rk N))] from ⟨o80_8 N, o105_10 N, trivial⟩) (spots := []) (by kernel_rfl) trivial hk
  · cases ha

def G79_11 {β : Type} (A : Pr) (B : Pk) (f65_4 : Int → Int → Int → Int → (Bool → Option β) → Option β) (x194 : Int) (x195 : Int) (x196 : Int) (x197 : Int) (k0 : Int → Option β) : Option β :=
    f65_4 x194 x195 x196 x197 (fun y198 =>
    match (A.bn y198) with
      | true => (k0 0)
      | false => (k0 (A.ar BinOp.mul IntKind.i64 (A.ar BinOp.sub IntKind.i64 x196 x194) (A.ar BinOp.sub IntKind.i64 x197 x195))))

def F79_11 {β : Type} (A : Pr) (B : Pk) (N : Nat) (x194 : Int) (x195 : Int) (x196 : Int) (x197 : Int) (k0 : Int → Option β) : Option β :=
  G79_11 A B (F65_4 A B N) x194 x195 x196 x197 k0

def M79_11 {β : Type} (f79_11 : Int → Int → Int → Int → (Int → Option β) → Option β) (a : List T) : Option ((T → List (List T) → Option β) → Option β) :=
  match gTs P0 a [] with
  | some [.i x194, .i x195, .i x196, .i x197] => some fun kk => f79_11 x194 x195 x196 x197 (fun y199 => kk (T.r (R.i IntKind.i64 y199)) [])
  | _ => none

theorem e79_11 {β : Type} (A : Pr) (B : Pk) (f65_4 : Int → Int → Int → Int → (Bool → Option β) → Option β) (x194 : Int) (x195 : Int) (x196 : Int) (x197 : Int) (kk : T → List (List T) → Option β) :
    uTs P0 [.i x194, .i x195, .i x196, .i x197] (fun a _ => bodyK (mkK Go.Proofs.Try.prog A B [(65, M65_4 f65_4)] [] (Go.Proofs.Ytcapaihnachkhaa.Hn 79).pt []) Go.Proofs.Try.f79 a kk) = G79_11 A B f65_4 x194 x195 x196 x197 (fun y199 => kk (T.r (R.i IntKind.i64 y199)) []) := by kernel_rfl

theorem o79_11 {β : Type} (N : Nat) : Snd (β := β) Go.Proofs.Try.prog Go.Proofs.Ytcapaihnachkhaa.Hn 79 (M79_11 (F79_11 re rk N)) := by
  intro a h kk r ha hr
  unfold M79_11 at ha
  split at ha
  · rename_i hs
    cases ha
    have hk := via_pat hs ((e79_11 re rk (F65_4 re rk N) _ _ _ _ kk).trans hr)
    exact fn_ok (f := 79) (fn := Go.Proofs.Try.f79) (H := Go.Proofs.Ytcapaihnachkhaa.Hn) (by kernel_rfl) (show SndAll Go.Proofs.Try.prog Go.Proofs.Ytcapaihnachkhaa.Hn [(65, M65_4 (F65_4 re rk N))] from ⟨o65_4 N, trivial⟩) (spots := []) (by kernel_rfl) trivial hk
  · cases ha

noncomputable def X49_12 : Code := atF Go.Proofs.Try.f49 [true, true, true, true, false, true, false, false]
theorem i49_12 : firstReg X49_12 = 12 := by kernel_rfl

def GL49_12_0 {β : Type} (A : Pr) (B : Pk) (f51_7 : Int → Int → Int → Int → Int → Int → (Int → Int → Int → Int → Option β) → Option β) (f79_11 : Int → Int → Int → Int → (Int → Option β) → Option β) (l49_12_0 : (Int → Option β) → (Option β) → Int → Int → Int → Int → Int → Int → List R → Int → Option β) (k0 : Int → Option β) (k1 : Option β) (x181 : Int) (x182 : Int) (x183 : Int) (x184 : Int) (x185 : Int) (x186 : Int) (x187 : List R) (x188 : Int) : Option β :=
    match (A.cm BinOp.lss x188 (A.on (A.len x187))) with
    | true => (match (A.ix x188 (A.len x187)) with
      | some i189 => (match (B.okE [(Sh.i IntKind.i64), Sh.b, (Sh.i IntKind.i64), (Sh.i IntKind.i64)] Bool.true x187 i189) with
        | true => (f51_7 x181 x182 x183 x184 (B.ci x187 i189 2) (B.ci x187 i189 3) (fun y190 y191 y192 y193 =>
          f79_11 y190 y191 y192 y193 (fun y200 =>
            match (A.cm BinOp.gtr y200 1048576) with
              | true => (k0 5)
              | false => (l49_12_0 k0 k1 x181 x182 x183 x184 x185 x186 x187 (A.ar BinOp.add IntKind.i64 x188 1)))))
        | false => none)
      | none => none)
    | false => k1

def L49_12_0 {β : Type} (A : Pr) (B : Pk) (N : Nat) : Nat → (Int → Option β) → (Option β) → Int → Int → Int → Int → Int → Int → List R → Int → Option β
  | 0, _, _, _, _, _, _, _, _, _, _ => none
  | n + 1, k0, k1, x181, x182, x183, x184, x185, x186, x187, x188 =>
    GL49_12_0 A B (F51_7 A B N) (F79_11 A B N) (L49_12_0 A B N n) k0 k1 x181 x182 x183 x184 x185 x186 x187 x188

def P8 : List PT := [.us 2, (.r (.i IntKind.i64)), .us 94]

def P9 : List PT := [.us 97]

def P10 : List PT := [.us 1, (.bx [(.r (.i IntKind.i64)), (.r (.i IntKind.i64)), (.r (.i IntKind.i64)), (.r (.i IntKind.i64)), (.r (.i IntKind.i64)), (.r (.i IntKind.i64)), (.r (.ro 4))]), .us 3, (.r (.i IntKind.i64)), .us 91]

noncomputable def M49_12 {β : Type} (l49_12_0 : (Int → Option β) → (Option β) → Int → Int → Int → Int → Int → Int → List R → Int → Option β) (s : List T) : Option ((Ex → List T → Option β) → Option β) :=
  match gTs P10 (clean ((Go.Proofs.Ytcapaihnachkhaa.Hn 49).lp 12).1 s) [] with
  | some [.i x181, .i x182, .i x183, .i x184, .i x185, .i x186, .l x187, .i x188] => some fun kk => l49_12_0 (fun y201 => uTs P8 [.i y201] fun s _ => kk Ex.rt s) (uTs P9 [] fun s _ => kk (Ex.ex 2) s) x181 x182 x183 x184 x185 x186 x187 x188
  | _ => none

theorem e49_12_0 {β : Type} (A : Pr) (B : Pk) (f51_7 : Int → Int → Int → Int → Int → Int → (Int → Int → Int → Int → Option β) → Option β) (f79_11 : Int → Int → Int → Int → (Int → Option β) → Option β) (l49_12_0 : (Int → Option β) → (Option β) → Int → Int → Int → Int → Int → Int → List R → Int → Option β) (x181 : Int) (x182 : Int) (x183 : Int) (x184 : Int) (x185 : Int) (x186 : Int) (x187 : List R) (x188 : Int) (kk : Ex → List T → Option β) :
    uTs P10 [.i x181, .i x182, .i x183, .i x184, .i x185, .i x186, .l x187, .i x188] (fun s _ => evK (mkK Go.Proofs.Try.prog A B [(51, M51_7 f51_7), (79, M79_11 f79_11)] [] (Go.Proofs.Ytcapaihnachkhaa.Hn 49).pt []) X49_12 s (fun e s' => match e with
      | .nm => (match M49_12 l49_12_0 s' with | some h => h kk | none => none)
      | .ex m => kk (.ex m) (clean ((Go.Proofs.Ytcapaihnachkhaa.Hn 49).lp (firstReg X49_12)).2 s')
      | .rt => kk .rt (clean ((Go.Proofs.Ytcapaihnachkhaa.Hn 49).lp (firstReg X49_12)).2 s'))) = GL49_12_0 A B f51_7 f79_11 l49_12_0 (fun y201 => uTs P8 [.i y201] fun s _ => kk Ex.rt s) (uTs P9 [] fun s _ => kk (Ex.ex 2) s) x181 x182 x183 x184 x185 x186 x187 x188 := by kernel_rfl

theorem ol49_12 {β : Type} (N : Nat) : ∀ n, SndL (β := β) Go.Proofs.Try.prog Go.Proofs.Ytcapaihnachkhaa.Hn (Go.Proofs.Ytcapaihnachkhaa.Hn 49) X49_12 (M49_12 (L49_12_0 re rk N n))
  | 0 => by
    intro s h kk r ha hr
    unfold M49_12 at ha
    split at ha
    · cases ha; cases hr
    · cases ha
  | n + 1 => by
    have ih := ol49_12 (β := β) N n
    intro s h kk r ha hr
    unfold M49_12 at ha
    split at ha
    · rename_i hs
      cases ha
      have hk := via_pat hs ((e49_12_0 re rk (F51_7 re rk N) (F79_11 re rk N) (L49_12_0 re rk N n) _ _ _ _ _ _ _ _ kk).trans hr)
      exact round_ok (show SndAll Go.Proofs.Try.prog Go.Proofs.Ytcapaihnachkhaa.Hn [(51, M51_7 (F51_7 re rk N)), (79, M79_11 (F79_11 re rk N))] from ⟨o51_7 N, o79_11 N, trivial⟩) (spots := []) (by kernel_rfl) trivial ih (hd := clean ((Go.Proofs.Ytcapaihnachkhaa.Hn 49).lp 12).1 s) (by rw [i49_12]) hk
    · cases ha

def G49_3 {β : Type} (A : Pr) (B : Pk) (f65_4 : Int → Int → Int → Int → (Bool → Option β) → Option β) (f66_5 : Int → Int → Int → Int → (Bool → Option β) → Option β) (f77_6 : Int → Int → Int → (Bool → Option β) → Option β) (f78_9 : Int → Int → Int → Int → Int → Int → List R → (Int → Option β) → Option β) (l49_4_0 : (Int → Int → Int → Int → Int → Int → List R → Int → Option β) → (Int → Int → Int → Int → Int → Int → List R → Option β) → Int → Int → Int → Int → Int → Int → List R → Int → Option β) (l49_12_0 : (Int → Option β) → (Option β) → Int → Int → Int → Int → Int → Int → List R → Int → Option β) (x58 : Int) (x59 : Int) (x60 : Int) (x61 : Int) (x62 : Int) (x63 : Int) (x64 : List R) (k0 : Int → Option β) : Option β :=
    f65_4 x58 x59 x60 x61 (fun y70 =>
    match (A.bn y70) with
      | true => (k0 12)
      | false => (f66_5 x58 x59 x60 x61 (fun y76 =>
        match y76 with
          | true => (k0 12)
          | false => (f77_6 x62 1 4096 (fun y81 =>
            match (A.bn y81) with
              | true => (k0 12)
              | false => (f77_6 x63 1 4096 (fun y82 =>
                match (A.bn y82) with
                  | true => (k0 12)
                  | false => (f77_6 (A.on (A.len x64)) 1 4 (fun y83 =>
                    match (A.bn y83) with
                      | true => (k0 12)
                      | false => (l49_4_0 (fun y150 y151 y152 y153 y154 y155 y156 y157 =>
                        k0 y157) (fun y158 y159 y160 y161 y162 y163 y164 =>
                        f78_9 y158 y159 y160 y161 y162 y163 y164 (fun y180 =>
                          match (A.cm BinOp.gtr y180 1024) with
                            | true => (k0 5)
                            | false => (l49_12_0 (fun y218 =>
                              k0 y218) (k0 0) y158 y159 y160 y161 y162 y163 y164 0))) x58 x59 x60 x61 x62 x63 x64 0))))))))))

def F49_3 {β : Type} (A : Pr) (B : Pk) (N : Nat) (x58 : Int) (x59 : Int) (x60 : Int) (x61 : Int) (x62 : Int) (x63 : Int) (x64 : List R) (k0 : Int → Option β) : Option β :=
  G49_3 A B (F65_4 A B N) (F66_5 A B N) (F77_6 A B N) (F78_9 A B N) (L49_4_0 A B N N) (L49_12_0 A B N N) x58 x59 x60 x61 x62 x63 x64 k0

def M49_3 {β : Type} (f49_3 : Int → Int → Int → Int → Int → Int → List R → (Int → Option β) → Option β) (a : List T) : Option ((T → List (List T) → Option β) → Option β) :=
  match gTs P7 a [] with
  | some [.i x58, .i x59, .i x60, .i x61, .i x62, .i x63, .l x64] => some fun kk => f49_3 x58 x59 x60 x61 x62 x63 x64 (fun y219 => kk (T.r (R.i IntKind.i64 y219)) [])
  | _ => none

theorem e49_3 {β : Type} (A : Pr) (B : Pk) (f65_4 : Int → Int → Int → Int → (Bool → Option β) → Option β) (f66_5 : Int → Int → Int → Int → (Bool → Option β) → Option β) (f77_6 : Int → Int → Int → (Bool → Option β) → Option β) (f78_9 : Int → Int → Int → Int → Int → Int → List R → (Int → Option β) → Option β) (l49_4_0 : (Int → Int → Int → Int → Int → Int → List R → Int → Option β) → (Int → Int → Int → Int → Int → Int → List R → Option β) → Int → Int → Int → Int → Int → Int → List R → Int → Option β) (l49_12_0 : (Int → Option β) → (Option β) → Int → Int → Int → Int → Int → Int → List R → Int → Option β) (x58 : Int) (x59 : Int) (x60 : Int) (x61 : Int) (x62 : Int) (x63 : Int) (x64 : List R) (kk : T → List (List T) → Option β) :
    uTs P7 [.i x58, .i x59, .i x60, .i x61, .i x62, .i x63, .l x64] (fun a _ => bodyK (mkK Go.Proofs.Try.prog A B [(65, M65_4 f65_4), (66, M66_5 f66_5), (77, M77_6 f77_6), (78, M78_9 f78_9)] [(4, M49_4 l49_4_0), (12, M49_12 l49_12_0)] (Go.Proofs.Ytcapaihnachkhaa.Hn 49).pt []) Go.Proofs.Try.f49 a kk) = G49_3 A B f65_4 f66_5 f77_6 f78_9 l49_4_0 l49_12_0 x58 x59 x60 x61 x62 x63 x64 (fun y219 => kk (T.r (R.i IntKind.i64 y219)) []) := by kernel_rfl

theorem o49_3 {β : Type} (N : Nat) : Snd (β := β) Go.Proofs.Try.prog Go.Proofs.Ytcapaihnachkhaa.Hn 49 (M49_3 (F49_3 re rk N)) := by
  intro a h kk r ha hr
  unfold M49_3 at ha
  split at ha
  · rename_i hs
    cases ha
    have hk := via_pat hs ((e49_3 re rk (F65_4 re rk N) (F66_5 re rk N) (F77_6 re rk N) (F78_9 re rk N) (L49_4_0 re rk N N) (L49_12_0 re rk N N) _ _ _ _ _ _ _ kk).trans hr)
    exact fn_ok (f := 49) (fn := Go.Proofs.Try.f49) (H := Go.Proofs.Ytcapaihnachkhaa.Hn) (by kernel_rfl) (show SndAll Go.Proofs.Try.prog Go.Proofs.Ytcapaihnachkhaa.Hn [(65, M65_4 (F65_4 re rk N)), (66, M66_5 (F66_5 re rk N)), (77, M77_6 (F77_6 re rk N)), (78, M78_9 (F78_9 re rk N))] from ⟨o65_4 N, o66_5 N, o77_6 N, o78_9 N, trivial⟩) (spots := [.lp X49_4, .lp X49_12]) (by kernel_rfl) ⟨cut_lp (id := 4) i49_4 (ol49_4 N N) (fun s kk => by kernel_rfl), cut_lp (id := 12) i49_12 (ol49_12 N N) (fun s kk => by kernel_rfl), trivial⟩ hk
  · cases ha

def G64_14 {β : Type} (A : Pr) (B : Pk) (f66_5 : Int → Int → Int → Int → (Bool → Option β) → Option β) (x264 : Int) (x265 : Int) (x266 : Int) (x267 : Int) (x268 : Int) (x269 : Int) (x270 : Int) (x271 : Int) (k0 : Int → Int → Int → Int → Option β) : Option β :=
    f66_5 (A.mx x264 x268) (A.mx x265 x269) (A.mn x266 x270) (A.mn x267 x271) (fun y272 =>
    match y272 with
      | true => (k0 0 0 0 0)
      | false => (k0 (A.mx x264 x268) (A.mx x265 x269) (A.mn x266 x270) (A.mn x267 x271)))

def F64_14 {β : Type} (A : Pr) (B : Pk) (N : Nat) (x264 : Int) (x265 : Int) (x266 : Int) (x267 : Int) (x268 : Int) (x269 : Int) (x270 : Int) (x271 : Int) (k0 : Int → Int → Int → Int → Option β) : Option β :=
  G64_14 A B (F66_5 A B N) x264 x265 x266 x267 x268 x269 x270 x271 k0

def P11 : List PT := [(.r (.a [(.i IntKind.i64), (.i IntKind.i64), (.i IntKind.i64), (.i IntKind.i64)])), (.r (.a [(.i IntKind.i64), (.i IntKind.i64), (.i IntKind.i64), (.i IntKind.i64)]))]

def M64_14 {β : Type} (f64_14 : Int → Int → Int → Int → Int → Int → Int → Int → (Int → Int → Int → Int → Option β) → Option β) (a : List T) : Option ((T → List (List T) → Option β) → Option β) :=
  match gTs P11 a [] with
  | some [.i x264, .i x265, .i x266, .i x267, .i x268, .i x269, .i x270, .i x271] => some fun kk => f64_14 x264 x265 x266 x267 x268 x269 x270 x271 (fun y273 y274 y275 y276 => kk (T.r (R.a [(R.i IntKind.i64 y273), (R.i IntKind.i64 y274), (R.i IntKind.i64 y275), (R.i IntKind.i64 y276)])) [])
  | _ => none

theorem e64_14 {β : Type} (A : Pr) (B : Pk) (f66_5 : Int → Int → Int → Int → (Bool → Option β) → Option β) (x264 : Int) (x265 : Int) (x266 : Int) (x267 : Int) (x268 : Int) (x269 : Int) (x270 : Int) (x271 : Int) (kk : T → List (List T) → Option β) :
    uTs P11 [.i x264, .i x265, .i x266, .i x267, .i x268, .i x269, .i x270, .i x271] (fun a _ => bodyK (mkK Go.Proofs.Try.prog A B [(66, M66_5 f66_5)] [] (Go.Proofs.Ytcapaihnachkhaa.Hn 64).pt []) Go.Proofs.Try.f64 a kk) = G64_14 A B f66_5 x264 x265 x266 x267 x268 x269 x270 x271 (fun y273 y274 y275 y276 => kk (T.r (R.a [(R.i IntKind.i64 y273), (R.i IntKind.i64 y274), (R.i IntKind.i64 y275), (R.i IntKind.i64 y276)])) []) := by kernel_rfl

theorem o64_14 {β : Type} (N : Nat) : Snd (β := β) Go.Proofs.Try.prog Go.Proofs.Ytcapaihnachkhaa.Hn 64 (M64_14 (F64_14 re rk N)) := by
  intro a h kk r ha hr
  unfold M64_14 at ha
  split at ha
  · rename_i hs
    cases ha
    have hk := via_pat hs ((e64_14 re rk (F66_5 re rk N) _ _ _ _ _ _ _ _ kk).trans hr)
    exact fn_ok (f := 64) (fn := Go.Proofs.Try.f64) (H := Go.Proofs.Ytcapaihnachkhaa.Hn) (by kernel_rfl) (show SndAll Go.Proofs.Try.prog Go.Proofs.Ytcapaihnachkhaa.Hn [(66, M66_5 (F66_5 re rk N))] from ⟨o66_5 N, trivial⟩) (spots := []) (by kernel_rfl) trivial hk
  · cases ha

noncomputable def X88_14 : Code := atF Go.Proofs.Try.f88 [true, true, true, true, true, true, true, true, false, true, false, false, true, false, false, true, false, false]
theorem i88_14 : firstReg X88_14 = 14 := by kernel_rfl

def GL88_14_0 {β : Type} (A : Pr) (B : Pk) (f64_14 : Int → Int → Int → Int → Int → Int → Int → Int → (Int → Int → Int → Int → Option β) → Option β) (l88_14_0 : (Int → Int → Int → Int → Int → Int → Int → Int → Int → List R → Int → Option β) → Int → Int → Int → Int → Int → Int → Int → Int → Int → List R → Int → Int → Option β) (k0 : Int → Int → Int → Int → Int → Int → Int → Int → Int → List R → Int → Option β) (x252 : Int) (x253 : Int) (x254 : Int) (x255 : Int) (x256 : Int) (x257 : Int) (x258 : Int) (x259 : Int) (x260 : Int) (x261 : List R) (x262 : Int) (x263 : Int) : Option β :=
    match (A.cm BinOp.lss x263 x259) with
    | true => (f64_14 x254 x255 x256 x257 (A.ar BinOp.mul IntKind.i64 x263 x252) (A.ar BinOp.mul IntKind.i64 x262 x253) (A.ar BinOp.add IntKind.i64 (A.ar BinOp.mul IntKind.i64 x263 x252) x252) (A.ar BinOp.add IntKind.i64 (A.ar BinOp.mul IntKind.i64 x262 x253) x253) (fun y277 y278 y279 y280 =>
      match (A.small (A.len (A.app x261 [(R.a [(R.i IntKind.i64 y277), (R.i IntKind.i64 y278), (R.i IntKind.i64 y279), (R.i IntKind.i64 y280)])])) 32) with
        | true => (l88_14_0 k0 x252 x253 x254 x255 x256 x257 x258 x259 x260 (A.app x261 [(R.a [(R.i IntKind.i64 y277), (R.i IntKind.i64 y278), (R.i IntKind.i64 y279), (R.i IntKind.i64 y280)])]) x262 (A.ar BinOp.add IntKind.i64 x263 1))
        | false => none))
    | false => (k0 x252 x253 x254 x255 x256 x257 x258 x259 x260 x261 x262)

def L88_14_0 {β : Type} (A : Pr) (B : Pk) (N : Nat) : Nat → (Int → Int → Int → Int → Int → Int → Int → Int → Int → List R → Int → Option β) → Int → Int → Int → Int → Int → Int → Int → Int → Int → List R → Int → Int → Option β
  | 0, _, _, _, _, _, _, _, _, _, _, _, _, _ => none
  | n + 1, k0, x252, x253, x254, x255, x256, x257, x258, x259, x260, x261, x262, x263 =>
    GL88_14_0 A B (F64_14 A B N) (L88_14_0 A B N n) k0 x252 x253 x254 x255 x256 x257 x258 x259 x260 x261 x262 x263

def P12 : List PT := [.us 1, (.r (.i IntKind.i64)), (.r (.i IntKind.i64)), (.bx [(.r (.i IntKind.i64)), (.r (.i IntKind.i64)), (.r (.i IntKind.i64)), (.r (.i IntKind.i64))]), .us 3, (.r (.i IntKind.i64)), (.r (.i IntKind.i64)), .us 1, (.r (.i IntKind.i64)), (.own Bool.true 4), (.r (.i IntKind.i64)), .us 75]

def P13 : List PT := [.us 1, (.r (.i IntKind.i64)), (.r (.i IntKind.i64)), (.bx [(.r (.i IntKind.i64)), (.r (.i IntKind.i64)), (.r (.i IntKind.i64)), (.r (.i IntKind.i64))]), .us 3, (.r (.i IntKind.i64)), (.r (.i IntKind.i64)), .us 1, (.r (.i IntKind.i64)), (.own Bool.true 4), (.r (.i IntKind.i64)), (.r (.i IntKind.i64)), .us 74]

noncomputable def M88_14 {β : Type} (l88_14_0 : (Int → Int → Int → Int → Int → Int → Int → Int → Int → List R → Int → Option β) → Int → Int → Int → Int → Int → Int → Int → Int → Int → List R → Int → Int → Option β) (s : List T) : Option ((Ex → List T → Option β) → Option β) :=
  match gTs P13 (clean ((Go.Proofs.Ytcapaihnachkhaa.Hn 88).lp 14).1 s) [] with
  | some [.i x252, .i x253, .i x254, .i x255, .i x256, .i x257, .i x258, .i x259, .i x260, .l x261, .i x262, .i x263] => some fun kk => l88_14_0 (fun y281 y282 y283 y284 y285 y286 y287 y288 y289 y290 y291 => uTs P12 [.i y281, .i y282, .i y283, .i y284, .i y285, .i y286, .i y287, .i y288, .i y289, .l y290, .i y291] fun s _ => kk (Ex.ex 2) s) x252 x253 x254 x255 x256 x257 x258 x259 x260 x261 x262 x263
  | _ => none

theorem e88_14_0 {β : Type} (A : Pr) (B : Pk) (f64_14 : Int → Int → Int → Int → Int → Int → Int → Int → (Int → Int → Int → Int → Option β) → Option β) (l88_14_0 : (Int → Int → Int → Int → Int → Int → Int → Int → Int → List R → Int → Option β) → Int → Int → Int → Int → Int → Int → Int → Int → Int → List R → Int → Int → Option β) (x252 : Int) (x253 : Int) (x254 : Int) (x255 : Int) (x256 : Int) (x257 : Int) (x258 : Int) (x259 : Int) (x260 : Int) (x261 : List R) (x262 : Int) (x263 : Int) (kk : Ex → List T → Option β) :
    uTs P13 [.i x252, .i x253, .i x254, .i x255, .i x256, .i x257, .i x258, .i x259, .i x260, .l x261, .i x262, .i x263] (fun s _ => evK (mkK Go.Proofs.Try.prog A B [(64, M64_14 f64_14)] [] (Go.Proofs.Ytcapaihnachkhaa.Hn 88).pt []) X88_14 s (fun e s' => match e with
      | .nm => (match M88_14 l88_14_0 s' with | some h => h kk | none => none)
      | .ex m => kk (.ex m) (clean ((Go.Proofs.Ytcapaihnachkhaa.Hn 88).lp (firstReg X88_14)).2 s')
      | .rt => kk .rt (clean ((Go.Proofs.Ytcapaihnachkhaa.Hn 88).lp (firstReg X88_14)).2 s'))) = GL88_14_0 A B f64_14 l88_14_0 (fun y281 y282 y283 y284 y285 y286 y287 y288 y289 y290 y291 => uTs P12 [.i y281, .i y282, .i y283, .i y284, .i y285, .i y286, .i y287, .i y288, .i y289, .l y290, .i y291] fun s _ => kk (Ex.ex 2) s) x252 x253 x254 x255 x256 x257 x258 x259 x260 x261 x262 x263 := by kernel_rfl

theorem ol88_14 {β : Type} (N : Nat) : ∀ n, SndL (β := β) Go.Proofs.Try.prog Go.Proofs.Ytcapaihnachkhaa.Hn (Go.Proofs.Ytcapaihnachkhaa.Hn 88) X88_14 (M88_14 (L88_14_0 re rk N n))
  | 0 => by
    intro s h kk r ha hr
    unfold M88_14 at ha
    split at ha
    · cases ha; cases hr
    · cases ha
  | n + 1 => by
    have ih := ol88_14 (β := β) N n
    intro s h kk r ha hr
    unfold M88_14 at ha
    split at ha
    · rename_i hs
      cases ha
      have hk := via_pat hs ((e88_14_0 re rk (F64_14 re rk N) (L88_14_0 re rk N n) _ _ _ _ _ _ _ _ _ _ _ _ kk).trans hr)
      exact round_ok (show SndAll Go.Proofs.Try.prog Go.Proofs.Ytcapaihnachkhaa.Hn [(64, M64_14 (F64_14 re rk N))] from ⟨o64_14 N, trivial⟩) (spots := []) (by kernel_rfl) trivial ih (hd := clean ((Go.Proofs.Ytcapaihnachkhaa.Hn 88).lp 14).1 s) (by rw [i88_14]) hk
    · cases ha

noncomputable def X88_11 : Code := atF Go.Proofs.Try.f88 [true, true, true, true, true, true, true, true, false, true, false, false]
theorem i88_11 : firstReg X88_11 = 11 := by kernel_rfl

def GL88_11_0 {β : Type} (A : Pr) (B : Pk) (l88_14_0 : (Int → Int → Int → Int → Int → Int → Int → Int → Int → List R → Int → Option β) → Int → Int → Int → Int → Int → Int → Int → Int → Int → List R → Int → Int → Option β) (l88_11_0 : (Int → Int → List R → Option β) → Int → Int → Int → Int → Int → Int → Int → Int → Int → List R → Int → Option β) (k0 : Int → Int → List R → Option β) (x241 : Int) (x242 : Int) (x243 : Int) (x244 : Int) (x245 : Int) (x246 : Int) (x247 : Int) (x248 : Int) (x249 : Int) (x250 : List R) (x251 : Int) : Option β :=
    match (A.cm BinOp.lss x251 x249) with
    | true => (l88_14_0 (fun y316 y317 y318 y319 y320 y321 y322 y323 y324 y325 y326 =>
      l88_11_0 k0 y316 y317 y318 y319 y320 y321 y322 y323 y324 y325 (A.ar BinOp.add IntKind.i64 y326 1)) x241 x242 x243 x244 x245 x246 x247 x248 x249 x250 x251 x247)
    | false => (k0 x241 x242 x250)

def L88_11_0 {β : Type} (A : Pr) (B : Pk) (N : Nat) : Nat → (Int → Int → List R → Option β) → Int → Int → Int → Int → Int → Int → Int → Int → Int → List R → Int → Option β
  | 0, _, _, _, _, _, _, _, _, _, _, _, _ => none
  | n + 1, k0, x241, x242, x243, x244, x245, x246, x247, x248, x249, x250, x251 =>
    GL88_11_0 A B (L88_14_0 A B N N) (L88_11_0 A B N n) k0 x241 x242 x243 x244 x245 x246 x247 x248 x249 x250 x251

def P14 : List PT := [.us 1, (.r (.i IntKind.i64)), (.r (.i IntKind.i64)), .us 8, (.own Bool.true 4), .us 76]

noncomputable def M88_11 {β : Type} (l88_11_0 : (Int → Int → List R → Option β) → Int → Int → Int → Int → Int → Int → Int → Int → Int → List R → Int → Option β) (s : List T) : Option ((Ex → List T → Option β) → Option β) :=
  match gTs P12 (clean ((Go.Proofs.Ytcapaihnachkhaa.Hn 88).lp 11).1 s) [] with
  | some [.i x241, .i x242, .i x243, .i x244, .i x245, .i x246, .i x247, .i x248, .i x249, .l x250, .i x251] => some fun kk => l88_11_0 (fun y327 y328 y329 => uTs P14 [.i y327, .i y328, .l y329] fun s _ => kk (Ex.ex 0) s) x241 x242 x243 x244 x245 x246 x247 x248 x249 x250 x251
  | _ => none

theorem e88_11_0 {β : Type} (A : Pr) (B : Pk) (l88_14_0 : (Int → Int → Int → Int → Int → Int → Int → Int → Int → List R → Int → Option β) → Int → Int → Int → Int → Int → Int → Int → Int → Int → List R → Int → Int → Option β) (l88_11_0 : (Int → Int → List R → Option β) → Int → Int → Int → Int → Int → Int → Int → Int → Int → List R → Int → Option β) (x241 : Int) (x242 : Int) (x243 : Int) (x244 : Int) (x245 : Int) (x246 : Int) (x247 : Int) (x248 : Int) (x249 : Int) (x250 : List R) (x251 : Int) (kk : Ex → List T → Option β) :
    uTs P12 [.i x241, .i x242, .i x243, .i x244, .i x245, .i x246, .i x247, .i x248, .i x249, .l x250, .i x251] (fun s _ => evK (mkK Go.Proofs.Try.prog A B [] [(14, M88_14 l88_14_0)] (Go.Proofs.Ytcapaihnachkhaa.Hn 88).pt []) X88_11 s (fun e s' => match e with
      | .nm => (match M88_11 l88_11_0 s' with | some h => h kk | none => none)
      | .ex m => kk (.ex m) (clean ((Go.Proofs.Ytcapaihnachkhaa.Hn 88).lp (firstReg X88_11)).2 s')
      | .rt => kk .rt (clean ((Go.Proofs.Ytcapaihnachkhaa.Hn 88).lp (firstReg X88_11)).2 s'))) = GL88_11_0 A B l88_14_0 l88_11_0 (fun y327 y328 y329 => uTs P14 [.i y327, .i y328, .l y329] fun s _ => kk (Ex.ex 0) s) x241 x242 x243 x244 x245 x246 x247 x248 x249 x250 x251 := by kernel_rfl

theorem ol88_11 {β : Type} (N : Nat) : ∀ n, SndL (β := β) Go.Proofs.Try.prog Go.Proofs.Ytcapaihnachkhaa.Hn (Go.Proofs.Ytcapaihnachkhaa.Hn 88) X88_11 (M88_11 (L88_11_0 re rk N n))
  | 0 => by
    intro s h kk r ha hr
    unfold M88_11 at ha
    split at ha
    · cases ha; cases hr
    · cases ha
  | n + 1 => by
    have ih := ol88_11 (β := β) N n
    intro s h kk r ha hr
    unfold M88_11 at ha
    split at ha
    · rename_i hs
      cases ha
      have hk := via_pat hs ((e88_11_0 re rk (L88_14_0 re rk N N) (L88_11_0 re rk N n) _ _ _ _ _ _ _ _ _ _ _ kk).trans hr)
      exact round_ok (show SndAll Go.Proofs.Try.prog Go.Proofs.Ytcapaihnachkhaa.Hn [] from trivial) (spots := [.lp X88_14]) (by kernel_rfl) ⟨cut_lp (id := 14) i88_14 (ol88_14 N N) (fun s kk => by kernel_rfl), trivial⟩ ih (hd := clean ((Go.Proofs.Ytcapaihnachkhaa.Hn 88).lp 11).1 s) (by rw [i88_11]) hk
    · cases ha

def G88_13 {β : Type} (A : Pr) (B : Pk) (f65_4 : Int → Int → Int → Int → (Bool → Option β) → Option β) (f66_5 : Int → Int → Int → Int → (Bool → Option β) → Option β) (f105_10 : Int → Int → (Int → Option β) → Option β) (f80_8 : Int → Int → (Int → Option β) → Option β) (l88_11_0 : (Int → Int → List R → Option β) → Int → Int → Int → Int → Int → Int → Int → Int → Int → List R → Int → Option β) (x229 : Int) (x230 : Int) (x231 : Int) (x232 : Int) (x233 : Int) (x234 : Int) (k0 : List R → Option β) : Option β :=
    f65_4 x229 x230 x231 x232 (fun y235 =>
    match (A.bn y235) with
      | true => (k0 [])
      | false => (f66_5 x229 x230 x231 x232 (fun y236 =>
        match y236 with
          | true => (k0 [])
          | false => (match (A.cm BinOp.lss x233 1) with
            | true => (k0 [])
            | false => (match (A.cm BinOp.lss x234 1) with
              | true => (k0 [])
              | false => (f105_10 x229 x233 (fun y237 =>
                f80_8 x231 x233 (fun y238 =>
                  f105_10 x230 x234 (fun y239 =>
                    f80_8 x232 x234 (fun y240 =>
                      match (A.cm BinOp.gtr (A.ar BinOp.mul IntKind.i64 (A.ar BinOp.sub IntKind.i64 y238 y237) (A.ar BinOp.sub IntKind.i64 y240 y239)) 65536) with
                        | true => (k0 [])
                        | false => (l88_11_0 (fun y352 y353 y354 =>
                          k0 y354) x233 x234 x229 x230 x231 x232 y237 y238 y240 [] y239)))))))))))

def F88_13 {β : Type} (A : Pr) (B : Pk) (N : Nat) (x229 : Int) (x230 : Int) (x231 : Int) (x232 : Int) (x233 : Int) (x234 : Int) (k0 : List R → Option β) : Option β :=
  G88_13 A B (F65_4 A B N) (F66_5 A B N) (F105_10 A B N) (F80_8 A B N) (L88_11_0 A B N N) x229 x230 x231 x232 x233 x234 k0

def M88_13 {β : Type} (f88_13 : Int → Int → Int → Int → Int → Int → (List R → Option β) → Option β) (a : List T) : Option ((T → List (List T) → Option β) → Option β) :=
  match gTs P3 a [] with
  | some [.i x229, .i x230, .i x231, .i x232, .i x233, .i x234] => some fun kk => f88_13 x229 x230 x231 x232 x233 x234 (fun y355 => kk (T.own Bool.true 4 y355) [])
  | _ => none

theorem e88_13 {β : Type} (A : Pr) (B : Pk) (f65_4 : Int → Int → Int → Int → (Bool → Option β) → Option β) (f66_5 : Int → Int → Int → Int → (Bool → Option β) → Option β) (f105_10 : Int → Int → (Int → Option β) → Option β) (f80_8 : Int → Int → (Int → Option β) → Option β) (l88_11_0 : (Int → Int → List R → Option β) → Int → Int → Int → Int → Int → Int → Int → Int → Int → List R → Int → Option β) (x229 : Int) (x230 : Int) (x231 : Int) (x232 : Int) (x233 : Int) (x234 : Int) (kk : T → List (List T) → Option β) :
    uTs P3 [.i x229, .i x230, .i x231, .i x232, .i x233, .i x234] (fun a _ => bodyK (mkK Go.Proofs.Try.prog A B [(65, M65_4 f65_4), (66, M66_5 f66_5), (105, M105_10 f105_10), (80, M80_8 f80_8)] [(11, M88_11 l88_11_0)] (Go.Proofs.Ytcapaihnachkhaa.Hn 88).pt []) Go.Proofs.Try.f88 a kk) = G88_13 A B f65_4 f66_5 f105_10 f80_8 l88_11_0 x229 x230 x231 x232 x233 x234 (fun y355 => kk (T.own Bool.true 4 y355) []) := by kernel_rfl

theorem o88_13 {β : Type} (N : Nat) : Snd (β := β) Go.Proofs.Try.prog Go.Proofs.Ytcapaihnachkhaa.Hn 88 (M88_13 (F88_13 re rk N)) := by
  intro a h kk r ha hr
  unfold M88_13 at ha
  split at ha
  · rename_i hs
    cases ha
    have hk := via_pat hs ((e88_13 re rk (F65_4 re rk N) (F66_5 re rk N) (F105_10 re rk N) (F80_8 re rk N) (L88_11_0 re rk N N) _ _ _ _ _ _ kk).trans hr)
    exact fn_ok (f := 88) (fn := Go.Proofs.Try.f88) (H := Go.Proofs.Ytcapaihnachkhaa.Hn) (by kernel_rfl) (show SndAll Go.Proofs.Try.prog Go.Proofs.Ytcapaihnachkhaa.Hn [(65, M65_4 (F65_4 re rk N)), (66, M66_5 (F66_5 re rk N)), (105, M105_10 (F105_10 re rk N)), (80, M80_8 (F80_8 re rk N))] from ⟨o65_4 N, o66_5 N, o105_10 N, o80_8 N, trivial⟩) (spots := [.lp X88_11]) (by kernel_rfl) ⟨cut_lp (id := 11) i88_11 (ol88_11 N N) (fun s kk => by kernel_rfl), trivial⟩ hk
  · cases ha

def G56_12 {β : Type} (A : Pr) (B : Pk) (f49_3 : Int → Int → Int → Int → Int → Int → List R → (Int → Option β) → Option β) (f88_13 : Int → Int → Int → Int → Int → Int → (List R → Option β) → Option β) (x221 : Int) (x222 : Int) (x223 : Int) (x224 : Int) (x225 : Int) (x226 : Int) (x227 : List R) (k0 : List R → Option β) : Option β :=
    f49_3 x221 x222 x223 x224 x225 x226 x227 (fun y228 =>
    match (A.cm BinOp.neq y228 0) with
      | true => (k0 [])
      | false => (f88_13 x221 x222 x223 x224 x225 x226 (fun y356 =>
        k0 y356)))

def F56_12 {β : Type} (A : Pr) (B : Pk) (N : Nat) (x221 : Int) (x222 : Int) (x223 : Int) (x224 : Int) (x225 : Int) (x226 : Int) (x227 : List R) (k0 : List R → Option β) : Option β :=
  G56_12 A B (F49_3 A B N) (F88_13 A B N) x221 x222 x223 x224 x225 x226 x227 k0

def M56_12 {β : Type} (f56_12 : Int → Int → Int → Int → Int → Int → List R → (List R → Option β) → Option β) (a : List T) : Option ((T → List (List T) → Option β) → Option β) :=
  match gTs P7 a [] with
  | some [.i x221, .i x222, .i x223, .i x224, .i x225, .i x226, .l x227] => some fun kk => f56_12 x221 x222 x223 x224 x225 x226 x227 (fun y357 => kk (T.own Bool.true 4 y357) [])
  | _ => none

theorem e56_12 {β : Type} (A : Pr) (B : Pk) (f49_3 : Int → Int → Int → Int → Int → Int → List R → (Int → Option β) → Option β) (f88_13 : Int → Int → Int → Int → Int → Int → (List R → Option β) → Option β) (x221 : Int) (x222 : Int) (x223 : Int) (x224 : Int) (x225 : Int) (x226 : Int) (x227 : List R) (kk : T → List (List T) → Option β) :
    uTs P7 [.i x221, .i x222, .i x223, .i x224, .i x225, .i x226, .l x227] (fun a _ => bodyK (mkK Go.Proofs.Try.prog A B [(49, M49_3 f49_3), (88, M88_13 f88_13)] [] (Go.Proofs.Ytcapaihnachkhaa.Hn 56).pt []) Go.Proofs.Try.f56 a kk) = G56_12 A B f49_3 f88_13 x221 x222 x223 x224 x225 x226 x227 (fun y357 => kk (T.own Bool.true 4 y357) []) := by kernel_rfl

theorem o56_12 {β : Type} (N : Nat) : Snd (β := β) Go.Proofs.Try.prog Go.Proofs.Ytcapaihnachkhaa.Hn 56 (M56_12 (F56_12 re rk N)) := by
  intro a h kk r ha hr
  unfold M56_12 at ha
  split at ha
  · rename_i hs
    cases ha
    have hk := via_pat hs ((e56_12 re rk (F49_3 re rk N) (F88_13 re rk N) _ _ _ _ _ _ _ kk).trans hr)
    exact fn_ok (f := 56) (fn := Go.Proofs.Try.f56) (H := Go.Proofs.Ytcapaihnachkhaa.Hn) (by kernel_rfl) (show SndAll Go.Proofs.Try.prog Go.Proofs.Ytcapaihnachkhaa.Hn [(49, M49_3 (F49_3 re rk N)), (88, M88_13 (F88_13 re rk N))] from ⟨o49_3 N, o88_13 N, trivial⟩) (spots := []) (by kernel_rfl) trivial hk
  · cases ha

def G89_16 {β : Type} (A : Pr) (B : Pk)  (x384 : Int) (x385 : Int) (x386 : Int) (x387 : Int) (x388 : Int) (x389 : Int) (x390 : Int) (x391 : Bool) (x392 : Bool) (x393 : Bool) (x394 : Bool) (x395 : Bool) (x396 : Bool) (x397 : Bool) (x398 : Bool) (x399 : Int) (x400 : Int) (k0 : Bool → Option β) : Option β :=
    match (A.cm BinOp.geq x384 1) with
    | true => (match (A.cm BinOp.leq x384 3) with
      | true => (match (A.cm BinOp.geq x386 0) with
        | true => (match (A.cm BinOp.leq x386 2) with
          | true => (match (A.cm BinOp.geq x389 1) with
            | true => (k0 (A.cm BinOp.leq x389 5))
            | false => (k0 Bool.false))
          | false => (k0 Bool.false))
        | false => (k0 Bool.false))
      | false => (k0 Bool.false))
    | false => (k0 Bool.false)

def F89_16 {β : Type} (A : Pr) (B : Pk) (N : Nat) (x384 : Int) (x385 : Int) (x386 : Int) (x387 : Int) (x388 : Int) (x389 : Int) (x390 : Int) (x391 : Bool) (x392 : Bool) (x393 : Bool) (x394 : Bool) (x395 : Bool) (x396 : Bool) (x397 : Bool) (x398 : Bool) (x399 : Int) (x400 : Int) (k0 : Bool → Option β) : Option β :=
  G89_16 A B  x384 x385 x386 x387 x388 x389 x390 x391 x392 x393 x394 x395 x396 x397 x398 x399 x400 k0

def P15 : List PT := [(.r (.a [(.i IntKind.i64), (.i IntKind.i64), (.i IntKind.i64), (.i IntKind.i64), (.i IntKind.i64), .sn, (.i IntKind.i64), (.i IntKind.i64), .b, .b, .b, .b, .b, .b, .b, .b, .sn, (.i IntKind.i64), (.i IntKind.i64)]))]

def M89_16 {β : Type} (f89_16 : Int → Int → Int → Int → Int → Int → Int → Bool → Bool → Bool → Bool → Bool → Bool → Bool → Bool → Int → Int → (Bool → Option β) → Option β) (a : List T) : Option ((T → List (List T) → Option β) → Option β) :=
  match gTs P15 a [] with
  | some [.i x384, .i x385, .i x386, .i x387, .i x388, .i x389, .i x390, .b x391, .b x392, .b x393, .b x394, .b x395, .b x396, .b x397, .b x398, .i x399, .i x400] => some fun kk => f89_16 x384 x385 x386 x387 x388 x389 x390 x391 x392 x393 x394 x395 x396 x397 x398 x399 x400 (fun y401 => kk (T.r (R.b y401)) [])
  | _ => none

theorem e89_16 {β : Type} (A : Pr) (B : Pk)  (x384 : Int) (x385 : Int) (x386 : Int) (x387 : Int) (x388 : Int) (x389 : Int) (x390 : Int) (x391 : Bool) (x392 : Bool) (x393 : Bool) (x394 : Bool) (x395 : Bool) (x396 : Bool) (x397 : Bool) (x398 : Bool) (x399 : Int) (x400 : Int) (kk : T → List (List T) → Option β) :
    uTs P15 [.i x384, .i x385, .i x386, .i x387, .i x388, .i x389, .i x390, .b x391, .b x392, .b x393, .b x394, .b x395, .b x396, .b x397, .b x398, .i x399, .i x400] (fun a _ => bodyK (mkK Go.Proofs.Try.prog A B [] [] (Go.Proofs.Ytcapaihnachkhaa.Hn 89).pt []) Go.Proofs.Try.f89 a kk) = G89_16 A B  x384 x385 x386 x387 x388 x389 x390 x391 x392 x393 x394 x395 x396 x397 x398 x399 x400 (fun y401 => kk (T.r (R.b y401)) []) := by kernel_rfl

theorem o89_16 {β : Type} (N : Nat) : Snd (β := β) Go.Proofs.Try.prog Go.Proofs.Ytcapaihnachkhaa.Hn 89 (M89_16 (F89_16 re rk N)) := by
  intro a h kk r ha hr
  unfold M89_16 at ha
  split at ha
  · rename_i hs
    cases ha
    have hk := via_pat hs ((e89_16 re rk  _ _ _ _ _ _ _ _ _ _ _ _ _ _ _ _ _ kk).trans hr)
    exact fn_ok (f := 89) (fn := Go.Proofs.Try.f89) (H := Go.Proofs.Ytcapaihnachkhaa.Hn) (by kernel_rfl) (show SndAll Go.Proofs.Try.prog Go.Proofs.Ytcapaihnachkhaa.Hn [] from trivial) (spots := []) (by kernel_rfl) trivial hk
  · cases ha

def G57_15 {β : Type} (A : Pr) (B : Pk) (f49_3 : Int → Int → Int → Int → Int → Int → List R → (Int → Option β) → Option β) (f89_16 : Int → Int → Int → Int → Int → Int → Int → Bool → Bool → Bool → Bool → Bool → Bool → Bool → Bool → Int → Int → (Bool → Option β) → Option β) (x359 : Int) (x360 : Int) (x361 : Int) (x362 : Int) (x363 : Int) (x364 : Int) (x365 : List R) (x366 : Int) (x367 : Int) (x368 : Int) (x369 : Int) (x370 : Int) (x371 : Int) (x372 : Int) (x373 : Bool) (x374 : Bool) (x375 : Bool) (x376 : Bool) (x377 : Bool) (x378 : Bool) (x379 : Bool) (x380 : Bool) (x381 : Int) (x382 : Int) (k0 : Int → Option β) : Option β :=
    f49_3 x359 x360 x361 x362 x363 x364 x365 (fun y383 =>
    match (A.cm BinOp.neq y383 0) with
      | true => (k0 y383)
      | false => (f89_16 x366 x367 x368 x369 x370 x371 x372 x373 x374 x375 x376 x377 x378 x379 x380 x381 x382 (fun y402 =>
        match (A.bn y402) with
          | true => (k0 3)
          | false => none)))

def F57_15 {β : Type} (A : Pr) (B : Pk) (N : Nat) (x359 : Int) (x360 : Int) (x361 : Int) (x362 : Int) (x363 : Int) (x364 : Int) (x365 : List R) (x366 : Int) (x367 : Int) (x368 : Int) (x369 : Int) (x370 : Int) (x371 : Int) (x372 : Int) (x373 : Bool) (x374 : Bool) (x375 : Bool) (x376 : Bool) (x377 : Bool) (x378 : Bool) (x379 : Bool) (x380 : Bool) (x381 : Int) (x382 : Int) (k0 : Int → Option β) : Option β :=
  G57_15 A B (F49_3 A B N) (F89_16 A B N) x359 x360 x361 x362 x363 x364 x365 x366 x367 x368 x369 x370 x371 x372 x373 x374 x375 x376 x377 x378 x379 x380 x381 x382 k0

def P16 : List PT := [(.r (.a [(.i IntKind.i64), (.i IntKind.i64), (.i IntKind.i64), (.i IntKind.i64), (.i IntKind.i64), (.i IntKind.i64), (.ro 4)])), (.r (.a [(.i IntKind.i64), (.i IntKind.i64), (.i IntKind.i64), (.i IntKind.i64), (.i IntKind.i64), .sn, (.i IntKind.i64), (.i IntKind.i64), .b, .b, .b, .b, .b, .b, .b, .b, .sn, (.i IntKind.i64), (.i IntKind.i64)]))]

def M57_15 {β : Type} (f57_15 : Int → Int → Int → Int → Int → Int → List R → Int → Int → Int → Int → Int → Int → Int → Bool → Bool → Bool → Bool → Bool → Bool → Bool → Bool → Int → Int → (Int → Option β) → Option β) (a : List T) : Option ((T → List (List T) → Option β) → Option β) :=
  match gTs P16 a [] with
  | some [.i x359, .i x360, .i x361, .i x362, .i x363, .i x364, .l x365, .i x366, .i x367, .i x368, .i x369, .i x370, .i x371, .i x372, .b x373, .b x374, .b x375, .b x376, .b x377, .b x378, .b x379, .b x380, .i x381, .i x382] => some fun kk => f57_15 x359 x360 x361 x362 x363 x364 x365 x366 x367 x368 x369 x370 x371 x372 x373 x374 x375 x376 x377 x378 x379 x380 x381 x382 (fun y403 => kk (T.r (R.i IntKind.i64 y403)) [])
  | _ => none

noncomputable def X57_13 : Code := atF Go.Proofs.Try.f57 [true, true, true, true, true, true, true, false, true, false, false]
theorem i57_13 : firstReg X57_13 = 13 := by kernel_rfl

theorem e57_15 {β : Type} (A : Pr) (B : Pk) (f49_3 : Int → Int → Int → Int → Int → Int → List R → (Int → Option β) → Option β) (f89_16 : Int → Int → Int → Int → Int → Int → Int → Bool → Bool → Bool → Bool → Bool → Bool → Bool → Bool → Int → Int → (Bool → Option β) → Option β) (x359 : Int) (x360 : Int) (x361 : Int) (x362 : Int) (x363 : Int) (x364 : Int) (x365 : List R) (x366 : Int) (x367 : Int) (x368 : Int) (x369 : Int) (x370 : Int) (x371 : Int) (x372 : Int) (x373 : Bool) (x374 : Bool) (x375 : Bool) (x376 : Bool) (x377 : Bool) (x378 : Bool) (x379 : Bool) (x380 : Bool) (x381 : Int) (x382 : Int) (kk : T → List (List T) → Option β) :
    uTs P16 [.i x359, .i x360, .i x361, .i x362, .i x363, .i x364, .l x365, .i x366, .i x367, .i x368, .i x369, .i x370, .i x371, .i x372, .b x373, .b x374, .b x375, .b x376, .b x377, .b x378, .b x379, .b x380, .i x381, .i x382] (fun a _ => bodyK (mkK Go.Proofs.Try.prog A B [(49, M49_3 f49_3), (89, M89_16 f89_16)] [] (Go.Proofs.Ytcapaihnachkhaa.Hn 57).pt []) Go.Proofs.Try.f57 a kk) = G57_15 A B f49_3 f89_16 x359 x360 x361 x362 x363 x364 x365 x366 x367 x368 x369 x370 x371 x372 x373 x374 x375 x376 x377 x378 x379 x380 x381 x382 (fun y403 => kk (T.r (R.i IntKind.i64 y403)) []) := by kernel_rfl

theorem o57_15 {β : Type} (N : Nat) : Snd (β := β) Go.Proofs.Try.prog Go.Proofs.Ytcapaihnachkhaa.Hn 57 (M57_15 (F57_15 re rk N)) := by
  intro a h kk r ha hr
  unfold M57_15 at ha
  split at ha
  · rename_i hs
    cases ha
    have hk := via_pat hs ((e57_15 re rk (F49_3 re rk N) (F89_16 re rk N) _ _ _ _ _ _ _ _ _ _ _ _ _ _ _ _ _ _ _ _ _ _ _ _ kk).trans hr)
    exact fn_ok (f := 57) (fn := Go.Proofs.Try.f57) (H := Go.Proofs.Ytcapaihnachkhaa.Hn) (by kernel_rfl) (show SndAll Go.Proofs.Try.prog Go.Proofs.Ytcapaihnachkhaa.Hn [(49, M49_3 (F49_3 re rk N)), (89, M89_16 (F89_16 re rk N))] from ⟨o49_3 N, o89_16 N, trivial⟩) (spots := [.lp X57_13]) (by kernel_rfl) ⟨no_lp (id := 13) i57_13 (fun s kk => by kernel_rfl), trivial⟩ hk
  · cases ha

noncomputable def X31_10 : Code := atF Go.Proofs.Try.f31 [true, true, true, true, true, false, true, false, false]
theorem i31_10 : firstReg X31_10 = 10 := by kernel_rfl

def GL31_10_0 {β : Type} (A : Pr) (B : Pk) (l31_10_0 : (Option β) → Int → Int → Int → Int → Int → Int → List R → Int → Int → Int → Int → Int → Int → Int → Bool → Bool → Bool → Bool → Bool → Bool → Bool → Bool → Int → Int → Int → Int → Option β) (k0 : Option β) (x406 : Int) (x407 : Int) (x408 : Int) (x409 : Int) (x410 : Int) (x411 : Int) (x412 : List R) (x413 : Int) (x414 : Int) (x415 : Int) (x416 : Int) (x417 : Int) (x418 : Int) (x419 : Int) (x420 : Bool) (x421 : Bool) (x422 : Bool) (x423 : Bool) (x424 : Bool) (x425 : Bool) (x426 : Bool) (x427 : Bool) (x428 : Int) (x429 : Int) (x430 : Int) (x431 : Int) : Option β :=
    match (A.cm BinOp.lss x431 x430) with
    | true => none
    | false => k0

def L31_10_0 {β : Type} (A : Pr) (B : Pk) (N : Nat) : Nat → (Option β) → Int → Int → Int → Int → Int → Int → List R → Int → Int → Int → Int → Int → Int → Int → Bool → Bool → Bool → Bool → Bool → Bool → Bool → Bool → Int → Int → Int → Int → Option β
  | 0, _, _, _, _, _, _, _, _, _, _, _, _, _, _, _, _, _, _, _, _, _, _, _, _, _, _, _ => none
  | n + 1, k0, x406, x407, x408, x409, x410, x411, x412, x413, x414, x415, x416, x417, x418, x419, x420, x421, x422, x423, x424, x425, x426, x427, x428, x429, x430, x431 =>
    GL31_10_0 A B (L31_10_0 A B N n) k0 x406 x407 x408 x409 x410 x411 x412 x413 x414 x415 x416 x417 x418 x419 x420 x421 x422 x423 x424 x425 x426 x427 x428 x429 x430 x431

def P17 : List PT := [.us 65]

def P18 : List PT := [.us 2, (.bx [(.r (.i IntKind.i64)), (.r (.i IntKind.i64)), (.r (.i IntKind.i64)), (.r (.i IntKind.i64)), (.r (.i IntKind.i64)), (.r (.i IntKind.i64)), (.r (.ro 4))]), (.bx [(.r (.i IntKind.i64)), (.r (.i IntKind.i64)), (.r (.i IntKind.i64)), (.r (.i IntKind.i64)), (.r (.i IntKind.i64)), (.r .sn), (.r (.i IntKind.i64)), (.r (.i IntKind.i64)), (.r .b), (.r .b), (.r .b), (.r .b), (.r .b), (.r .b), (.r .b), (.r .b), (.r .sn), (.r (.i IntKind.i64)), (.r (.i IntKind.i64))]), .us 51, (.r (.i IntKind.i64)), (.r (.i IntKind.i64)), .us 8]

noncomputable def M31_10 {β : Type} (l31_10_0 : (Option β) → Int → Int → Int → Int → Int → Int → List R → Int → Int → Int → Int → Int → Int → Int → Bool → Bool → Bool → Bool → Bool → Bool → Bool → Bool → Int → Int → Int → Int → Option β) (s : List T) : Option ((Ex → List T → Option β) → Option β) :=
  match gTs P18 (clean ((Go.Proofs.Ytcapaihnachkhaa.Hn 31).lp 10).1 s) [] with
  | some [.i x406, .i x407, .i x408, .i x409, .i x410, .i x411, .l x412, .i x413, .i x414, .i x415, .i x416, .i x417, .i x418, .i x419, .b x420, .b x421, .b x422, .b x423, .b x424, .b x425, .b x426, .b x427, .i x428, .i x429, .i x430, .i x431] => some fun kk => l31_10_0 (uTs P17 [] fun s _ => kk (Ex.ex 0) s) x406 x407 x408 x409 x410 x411 x412 x413 x414 x415 x416 x417 x418 x419 x420 x421 x422 x423 x424 x425 x426 x427 x428 x429 x430 x431
  | _ => none

theorem e31_10_0 {β : Type} (A : Pr) (B : Pk) (l31_10_0 : (Option β) → Int → Int → Int → Int → Int → Int → List R → Int → Int → Int → Int → Int → Int → Int → Bool → Bool → Bool → Bool → Bool → Bool → Bool → Bool → Int → Int → Int → Int → Option β) (x406 : Int) (x407 : Int) (x408 : Int) (x409 : Int) (x410 : Int) (x411 : Int) (x412 : List R) (x413 : Int) (x414 : Int) (x415 : Int) (x416 : Int) (x417 : Int) (x418 : Int) (x419 : Int) (x420 : Bool) (x421 : Bool) (x422 : Bool) (x423 : Bool) (x424 : Bool) (x425 : Bool) (x426 : Bool) (x427 : Bool) (x428 : Int) (x429 : Int) (x430 : Int) (x431 : Int) (kk : Ex → List T → Option β) :
    uTs P18 [.i x406, .i x407, .i x408, .i x409, .i x410, .i x411, .l x412, .i x413, .i x414, .i x415, .i x416, .i x417, .i x418, .i x419, .b x420, .b x421, .b x422, .b x423, .b x424, .b x425, .b x426, .b x427, .i x428, .i x429, .i x430, .i x431] (fun s _ => evK (mkK Go.Proofs.Try.prog A B [] [] (Go.Proofs.Ytcapaihnachkhaa.Hn 31).pt []) X31_10 s (fun e s' => match e with
      | .nm => (match M31_10 l31_10_0 s' with | some h => h kk | none => none)
      | .ex m => kk (.ex m) (clean ((Go.Proofs.Ytcapaihnachkhaa.Hn 31).lp (firstReg X31_10)).2 s')
      | .rt => kk .rt (clean ((Go.Proofs.Ytcapaihnachkhaa.Hn 31).lp (firstReg X31_10)).2 s'))) = GL31_10_0 A B l31_10_0 (uTs P17 [] fun s _ => kk (Ex.ex 0) s) x406 x407 x408 x409 x410 x411 x412 x413 x414 x415 x416 x417 x418 x419 x420 x421 x422 x423 x424 x425 x426 x427 x428 x429 x430 x431 := by kernel_rfl

theorem ol31_10 {β : Type} (N : Nat) : ∀ n, SndL (β := β) Go.Proofs.Try.prog Go.Proofs.Ytcapaihnachkhaa.Hn (Go.Proofs.Ytcapaihnachkhaa.Hn 31) X31_10 (M31_10 (L31_10_0 re rk N n))
  | 0 => by
    intro s h kk r ha hr
    unfold M31_10 at ha
    split at ha
    · cases ha; cases hr
    · cases ha
  | n + 1 => by
    have ih := ol31_10 (β := β) N n
    intro s h kk r ha hr
    unfold M31_10 at ha
    split at ha
    · rename_i hs
      cases ha
      have hk := via_pat hs ((e31_10_0 re rk (L31_10_0 re rk N n) _ _ _ _ _ _ _ _ _ _ _ _ _ _ _ _ _ _ _ _ _ _ _ _ _ _ kk).trans hr)
      exact round_ok (show SndAll Go.Proofs.Try.prog Go.Proofs.Ytcapaihnachkhaa.Hn [] from trivial) (spots := []) (by kernel_rfl) trivial ih (hd := clean ((Go.Proofs.Ytcapaihnachkhaa.Hn 31).lp 10).1 s) (by rw [i31_10]) hk
    · cases ha

def G31_2 {β : Type} (A : Pr) (B : Pk) (f49_3 : Int → Int → Int → Int → Int → Int → List R → (Int → Option β) → Option β) (f56_12 : Int → Int → Int → Int → Int → Int → List R → (List R → Option β) → Option β) (f57_15 : Int → Int → Int → Int → Int → Int → List R → Int → Int → Int → Int → Int → Int → Int → Bool → Bool → Bool → Bool → Bool → Bool → Bool → Bool → Int → Int → (Int → Option β) → Option β) (l31_10_0 : (Option β) → Int → Int → Int → Int → Int → Int → List R → Int → Int → Int → Int → Int → Int → Int → Bool → Bool → Bool → Bool → Bool → Bool → Bool → Bool → Int → Int → Int → Int → Option β) (x34 : Int) (x35 : Int) (x36 : Int) (x37 : Int) (x38 : Int) (x39 : Int) (x40 : List R) (x41 : Int) (x42 : Int) (x43 : Int) (x44 : Int) (x45 : Int) (x46 : Int) (x47 : Int) (x48 : Bool) (x49 : Bool) (x50 : Bool) (x51 : Bool) (x52 : Bool) (x53 : Bool) (x54 : Bool) (x55 : Bool) (x56 : Int) (x57 : Int) (k0 : Bool → Option β) : Option β :=
    match (A.cm BinOp.gtr (A.on (A.len x40)) 10) with
    | true => (k0 Bool.false)
    | false => (match (A.cm BinOp.gtr (A.on 0) 10) with
      | true => (k0 Bool.false)
      | false => (match (A.cm BinOp.gtr (A.on 0) 40) with
        | true => (k0 Bool.false)
        | false => (f49_3 x34 x35 x36 x37 x38 x39 x40 (fun y220 =>
          match (A.cm BinOp.neq y220 0) with
            | true => (k0 Bool.true)
            | false => (match (A.cm BinOp.gtr (A.ar BinOp.sub IntKind.i64 x36 x34) 40) with
              | true => (k0 Bool.false)
              | false => (match (A.cm BinOp.gtr (A.ar BinOp.sub IntKind.i64 x37 x35) 40) with
                | true => (k0 Bool.false)
                | false => (f56_12 x34 x35 x36 x37 x38 x39 x40 (fun y358 =>
                  match (A.cm BinOp.gtr (A.on (A.len y358)) 16) with
                    | true => (k0 Bool.false)
                    | false => (f57_15 x34 x35 x36 x37 x38 x39 x40 x41 x42 x43 x44 x45 x46 x47 x48 x49 x50 x51 x52 x53 x54 x55 x56 x57 (fun y404 =>
                      match (A.cm BinOp.neq y404 0) with
                        | true => (k0 Bool.true)
                        | false => (f56_12 x34 x35 x36 x37 x38 x39 x40 (fun y405 =>
                          l31_10_0 (k0 Bool.true) x34 x35 x36 x37 x38 x39 x40 x41 x42 x43 x44 x45 x46 x47 x48 x49 x50 x51 x52 x53 x54 x55 x56 x57 (A.on (A.len y405)) 0))))))))))))

def F31_2 {β : Type} (A : Pr) (B : Pk) (N : Nat) (x34 : Int) (x35 : Int) (x36 : Int) (x37 : Int) (x38 : Int) (x39 : Int) (x40 : List R) (x41 : Int) (x42 : Int) (x43 : Int) (x44 : Int) (x45 : Int) (x46 : Int) (x47 : Int) (x48 : Bool) (x49 : Bool) (x50 : Bool) (x51 : Bool) (x52 : Bool) (x53 : Bool) (x54 : Bool) (x55 : Bool) (x56 : Int) (x57 : Int) (k0 : Bool → Option β) : Option β :=
  G31_2 A B (F49_3 A B N) (F56_12 A B N) (F57_15 A B N) (L31_10_0 A B N N) x34 x35 x36 x37 x38 x39 x40 x41 x42 x43 x44 x45 x46 x47 x48 x49 x50 x51 x52 x53 x54 x55 x56 x57 k0

def M31_2 {β : Type} (f31_2 : Int → Int → Int → Int → Int → Int → List R → Int → Int → Int → Int → Int → Int → Int → Bool → Bool → Bool → Bool → Bool → Bool → Bool → Bool → Int → Int → (Bool → Option β) → Option β) (a : List T) : Option ((T → List (List T) → Option β) → Option β) :=
  match gTs P16 a [] with
  | some [.i x34, .i x35, .i x36, .i x37, .i x38, .i x39, .l x40, .i x41, .i x42, .i x43, .i x44, .i x45, .i x46, .i x47, .b x48, .b x49, .b x50, .b x51, .b x52, .b x53, .b x54, .b x55, .i x56, .i x57] => some fun kk => f31_2 x34 x35 x36 x37 x38 x39 x40 x41 x42 x43 x44 x45 x46 x47 x48 x49 x50 x51 x52 x53 x54 x55 x56 x57 (fun y484 => kk (T.r (R.b y484)) [])
  | _ => none

theorem e31_2 {β : Type} (A : Pr) (B : Pk) (f49_3 : Int → Int → Int → Int → Int → Int → List R → (Int → Option β) → Option β) (f56_12 : Int → Int → Int → Int → Int → Int → List R → (List R → Option β) → Option β) (f57_15 : Int → Int → Int → Int → Int → Int → List R → Int → Int → Int → Int → Int → Int → Int → Bool → Bool → Bool → Bool → Bool → Bool → Bool → Bool → Int → Int → (Int → Option β) → Option β) (l31_10_0 : (Option β) → Int → Int → Int → Int → Int → Int → List R → Int → Int → Int → Int → Int → Int → Int → Bool → Bool → Bool → Bool → Bool → Bool → Bool → Bool → Int → Int → Int → Int → Option β) (x34 : Int) (x35 : Int) (x36 : Int) (x37 : Int) (x38 : Int) (x39 : Int) (x40 : List R) (x41 : Int) (x42 : Int) (x43 : Int) (x44 : Int) (x45 : Int) (x46 : Int) (x47 : Int) (x48 : Bool) (x49 : Bool) (x50 : Bool) (x51 : Bool) (x52 : Bool) (x53 : Bool) (x54 : Bool) (x55 : Bool) (x56 : Int) (x57 : Int) (kk : T → List (List T) → Option β) :
    uTs P16 [.i x34, .i x35, .i x36, .i x37, .i x38, .i x39, .l x40, .i x41, .i x42, .i x43, .i x44, .i x45, .i x46, .i x47, .b x48, .b x49, .b x50, .b x51, .b x52, .b x53, .b x54, .b x55, .i x56, .i x57] (fun a _ => bodyK (mkK Go.Proofs.Try.prog A B [(49, M49_3 f49_3), (56, M56_12 f56_12), (57, M57_15 f57_15)] [(10, M31_10 l31_10_0)] (Go.Proofs.Ytcapaihnachkhaa.Hn 31).pt []) Go.Proofs.Try.f31 a kk) = G31_2 A B f49_3 f56_12 f57_15 l31_10_0 x34 x35 x36 x37 x38 x39 x40 x41 x42 x43 x44 x45 x46 x47 x48 x49 x50 x51 x52 x53 x54 x55 x56 x57 (fun y484 => kk (T.r (R.b y484)) []) := by kernel_rfl

theorem o31_2 {β : Type} (N : Nat) : Snd (β := β) Go.Proofs.Try.prog Go.Proofs.Ytcapaihnachkhaa.Hn 31 (M31_2 (F31_2 re rk N)) := by
  intro a h kk r ha hr
  unfold M31_2 at ha
  split at ha
  · rename_i hs
    cases ha
    have hk := via_pat hs ((e31_2 re rk (F49_3 re rk N) (F56_12 re rk N) (F57_15 re rk N) (L31_10_0 re rk N N) _ _ _ _ _ _ _ _ _ _ _ _ _ _ _ _ _ _ _ _ _ _ _ _ kk).trans hr)
    exact fn_ok (f := 31) (fn := Go.Proofs.Try.f31) (H := Go.Proofs.Ytcapaihnachkhaa.Hn) (by kernel_rfl) (show SndAll Go.Proofs.Try.prog Go.Proofs.Ytcapaihnachkhaa.Hn [(49, M49_3 (F49_3 re rk N)), (56, M56_12 (F56_12 re rk N)), (57, M57_15 (F57_15 re rk N))] from ⟨o49_3 N, o56_12 N, o57_15 N, trivial⟩) (spots := [.lp X31_10]) (by kernel_rfl) ⟨cut_lp (id := 10) i31_10 (ol31_10 N N) (fun s kk => by kernel_rfl), trivial⟩ hk
  · cases ha

noncomputable def X22_4 : Code := atF Go.Proofs.Try.f22 [true, true, false, true, false, false]
theorem i22_4 : firstReg X22_4 = 4 := by kernel_rfl

def GL22_4_0 {β : Type} (A : Pr) (B : Pk) (l22_4_0 : (Bool → Option β) → (Option β) → List R → Int → Int → Option β) (k0 : Bool → Option β) (k1 : Option β) (x486 : List R) (x487 : Int) (x488 : Int) : Option β :=
    match (A.cm BinOp.lss x488 x487) with
    | true => (match (A.ix x488 (A.len x486)) with
      | some i489 => (match (B.okE [(Sh.i IntKind.i64), (Sh.i IntKind.i64), (Sh.i IntKind.i64), (Sh.i IntKind.i64), (Sh.sl 1 (Sh.i IntKind.i64))] Bool.true x486 i489) with
        | true => (match (A.cm BinOp.gtr (A.on (A.len (B.cl x486 i489 4))) 1700) with
          | true => (k0 Bool.false)
          | false => (l22_4_0 k0 k1 x486 x487 (A.ar BinOp.add IntKind.i64 x488 1)))
        | false => none)
      | none => none)
    | false => k1

def L22_4_0 {β : Type} (A : Pr) (B : Pk) (N : Nat) : Nat → (Bool → Option β) → (Option β) → List R → Int → Int → Option β
  | 0, _, _, _, _, _ => none
  | n + 1, k0, k1, x486, x487, x488 =>
    GL22_4_0 A B (L22_4_0 A B N n) k0 k1 x486 x487 x488

def P19 : List PT := [.us 8, (.r .b), .us 35]

def P20 : List PT := [.us 44]

def P21 : List PT := [.us 33, (.r (.ro 5)), (.r (.i IntKind.i64)), (.r (.i IntKind.i64)), .us 8]

noncomputable def M22_4 {β : Type} (l22_4_0 : (Bool → Option β) → (Option β) → List R → Int → Int → Option β) (s : List T) : Option ((Ex → List T → Option β) → Option β) :=
  match gTs P21 (clean ((Go.Proofs.Ytcapaihnachkhaa.Hn 22).lp 4).1 s) [] with
  | some [.l x486, .i x487, .i x488] => some fun kk => l22_4_0 (fun y490 => uTs P19 [.b y490] fun s _ => kk Ex.rt s) (uTs P20 [] fun s _ => kk (Ex.ex 0) s) x486 x487 x488
  | _ => none

theorem e22_4_0 {β : Type} (A : Pr) (B : Pk) (l22_4_0 : (Bool → Option β) → (Option β) → List R → Int → Int → Option β) (x486 : List R) (x487 : Int) (x488 : Int) (kk : Ex → List T → Option β) :
    uTs P21 [.l x486, .i x487, .i x488] (fun s _ => evK (mkK Go.Proofs.Try.prog A B [] [] (Go.Proofs.Ytcapaihnachkhaa.Hn 22).pt []) X22_4 s (fun e s' => match e with
      | .nm => (match M22_4 l22_4_0 s' with | some h => h kk | none => none)
      | .ex m => kk (.ex m) (clean ((Go.Proofs.Ytcapaihnachkhaa.Hn 22).lp (firstReg X22_4)).2 s')
      | .rt => kk .rt (clean ((Go.Proofs.Ytcapaihnachkhaa.Hn 22).lp (firstReg X22_4)).2 s'))) = GL22_4_0 A B l22_4_0 (fun y490 => uTs P19 [.b y490] fun s _ => kk Ex.rt s) (uTs P20 [] fun s _ => kk (Ex.ex 0) s) x486 x487 x488 := by kernel_rfl

theorem ol22_4 {β : Type} (N : Nat) : ∀ n, SndL (β := β) Go.Proofs.Try.prog Go.Proofs.Ytcapaihnachkhaa.Hn (Go.Proofs.Ytcapaihnachkhaa.Hn 22) X22_4 (M22_4 (L22_4_0 re rk N n))
  | 0 => by
    intro s h kk r ha hr
    unfold M22_4 at ha
    split at ha
    · cases ha; cases hr
    · cases ha
  | n + 1 => by
    have ih := ol22_4 (β := β) N n
    intro s h kk r ha hr
    unfold M22_4 at ha
    split at ha
    · rename_i hs
      cases ha
      have hk := via_pat hs ((e22_4_0 re rk (L22_4_0 re rk N n) _ _ _ kk).trans hr)
      exact round_ok (show SndAll Go.Proofs.Try.prog Go.Proofs.Ytcapaihnachkhaa.Hn [] from trivial) (spots := []) (by kernel_rfl) trivial ih (hd := clean ((Go.Proofs.Ytcapaihnachkhaa.Hn 22).lp 4).1 s) (by rw [i22_4]) hk
    · cases ha

def G22_1 {β : Type} (A : Pr) (B : Pk) (f31_2 : Int → Int → Int → Int → Int → Int → List R → Int → Int → Int → Int → Int → Int → Int → Bool → Bool → Bool → Bool → Bool → Bool → Bool → Bool → Int → Int → (Bool → Option β) → Option β) (l22_4_0 : (Bool → Option β) → (Option β) → List R → Int → Int → Option β) (x9 : Int) (x10 : Int) (x11 : Int) (x12 : Int) (x13 : Int) (x14 : Int) (x15 : List R) (x16 : List R) (x17 : Int) (x18 : Int) (x19 : Int) (x20 : Int) (x21 : Int) (x22 : Int) (x23 : Int) (x24 : Bool) (x25 : Bool) (x26 : Bool) (x27 : Bool) (x28 : Bool) (x29 : Bool) (x30 : Bool) (x31 : Bool) (x32 : Int) (x33 : Int) (k0 : Bool → Option β) : Option β :=
    f31_2 x9 x10 x11 x12 x13 x14 x15 x17 x18 x19 x20 x21 x22 x23 x24 x25 x26 x27 x28 x29 x30 x31 x32 x33 (fun y485 =>
    match (A.bn y485) with
      | true => (k0 Bool.false)
      | false => (match (A.cm BinOp.gtr (A.on (A.len x16)) 10) with
        | true => (k0 Bool.false)
        | false => (match (A.cm BinOp.gtr (A.on 0) 10) with
          | true => (k0 Bool.false)
          | false => (match (A.cm BinOp.gtr (A.on 0) 20) with
            | true => (k0 Bool.false)
            | false => (l22_4_0 (fun y497 =>
              k0 y497) (k0 Bool.true) x16 (A.on (A.len x16)) 0)))))

def F22_1 {β : Type} (A : Pr) (B : Pk) (N : Nat) (x9 : Int) (x10 : Int) (x11 : Int) (x12 : Int) (x13 : Int) (x14 : Int) (x15 : List R) (x16 : List R) (x17 : Int) (x18 : Int) (x19 : Int) (x20 : Int) (x21 : Int) (x22 : Int) (x23 : Int) (x24 : Bool) (x25 : Bool) (x26 : Bool) (x27 : Bool) (x28 : Bool) (x29 : Bool) (x30 : Bool) (x31 : Bool) (x32 : Int) (x33 : Int) (k0 : Bool → Option β) : Option β :=
  G22_1 A B (F31_2 A B N) (L22_4_0 A B N N) x9 x10 x11 x12 x13 x14 x15 x16 x17 x18 x19 x20 x21 x22 x23 x24 x25 x26 x27 x28 x29 x30 x31 x32 x33 k0

def P22 : List PT := [(.r (.a [(.i IntKind.i64), (.i IntKind.i64), (.i IntKind.i64), (.i IntKind.i64), (.i IntKind.i64), (.i IntKind.i64), (.ro 4), (.ro 5)])), (.r (.a [(.i IntKind.i64), (.i IntKind.i64), (.i IntKind.i64), (.i IntKind.i64), (.i IntKind.i64), .sn, (.i IntKind.i64), (.i IntKind.i64), .b, .b, .b, .b, .b, .b, .b, .b, .sn, (.i IntKind.i64), (.i IntKind.i64)])), (.r .sn), (.r .sn)]

def M22_1 {β : Type} (f22_1 : Int → Int → Int → Int → Int → Int → List R → List R → Int → Int → Int → Int → Int → Int → Int → Bool → Bool → Bool → Bool → Bool → Bool → Bool → Bool → Int → Int → (Bool → Option β) → Option β) (a : List T) : Option ((T → List (List T) → Option β) → Option β) :=
  match gTs P22 a [] with
  | some [.i x9, .i x10, .i x11, .i x12, .i x13, .i x14, .l x15, .l x16, .i x17, .i x18, .i x19, .i x20, .i x21, .i x22, .i x23, .b x24, .b x25, .b x26, .b x27, .b x28, .b x29, .b x30, .b x31, .i x32, .i x33] => some fun kk => f22_1 x9 x10 x11 x12 x13 x14 x15 x16 x17 x18 x19 x20 x21 x22 x23 x24 x25 x26 x27 x28 x29 x30 x31 x32 x33 (fun y498 => kk (T.r (R.b y498)) [])
  | _ => none

theorem e22_1 {β : Type} (A : Pr) (B : Pk) (f31_2 : Int → Int → Int → Int → Int → Int → List R → Int → Int → Int → Int → Int → Int → Int → Bool → Bool → Bool → Bool → Bool → Bool → Bool → Bool → Int → Int → (Bool → Option β) → Option β) (l22_4_0 : (Bool → Option β) → (Option β) → List R → Int → Int → Option β) (x9 : Int) (x10 : Int) (x11 : Int) (x12 : Int) (x13 : Int) (x14 : Int) (x15 : List R) (x16 : List R) (x17 : Int) (x18 : Int) (x19 : Int) (x20 : Int) (x21 : Int) (x22 : Int) (x23 : Int) (x24 : Bool) (x25 : Bool) (x26 : Bool) (x27 : Bool) (x28 : Bool) (x29 : Bool) (x30 : Bool) (x31 : Bool) (x32 : Int) (x33 : Int) (kk : T → List (List T) → Option β) :
    uTs P22 [.i x9, .i x10, .i x11, .i x12, .i x13, .i x14, .l x15, .l x16, .i x17, .i x18, .i x19, .i x20, .i x21, .i x22, .i x23, .b x24, .b x25, .b x26, .b x27, .b x28, .b x29, .b x30, .b x31, .i x32, .i x33] (fun a _ => bodyK (mkK Go.Proofs.Try.prog A B [(31, M31_2 f31_2)] [(4, M22_4 l22_4_0)] (Go.Proofs.Ytcapaihnachkhaa.Hn 22).pt []) Go.Proofs.Try.f22 a kk) = G22_1 A B f31_2 l22_4_0 x9 x10 x11 x12 x13 x14 x15 x16 x17 x18 x19 x20 x21 x22 x23 x24 x25 x26 x27 x28 x29 x30 x31 x32 x33 (fun y498 => kk (T.r (R.b y498)) []) := by kernel_rfl

theorem o22_1 {β : Type} (N : Nat) : Snd (β := β) Go.Proofs.Try.prog Go.Proofs.Ytcapaihnachkhaa.Hn 22 (M22_1 (F22_1 re rk N)) := by
  intro a h kk r ha hr
  unfold M22_1 at ha
  split at ha
  · rename_i hs
    cases ha
    have hk := via_pat hs ((e22_1 re rk (F31_2 re rk N) (L22_4_0 re rk N N) _ _ _ _ _ _ _ _ _ _ _ _ _ _ _ _ _ _ _ _ _ _ _ _ _ kk).trans hr)
    exact fn_ok (f := 22) (fn := Go.Proofs.Try.f22) (H := Go.Proofs.Ytcapaihnachkhaa.Hn) (by kernel_rfl) (show SndAll Go.Proofs.Try.prog Go.Proofs.Ytcapaihnachkhaa.Hn [(31, M31_2 (F31_2 re rk N))] from ⟨o31_2 N, trivial⟩) (spots := [.lp X22_4]) (by kernel_rfl) ⟨cut_lp (id := 4) i22_4 (ol22_4 N N) (fun s kk => by kernel_rfl), trivial⟩ hk
  · cases ha

def M23_17 {β : Type} (a : List T) : Option ((T → List (List T) → Option β) → Option β) :=
  match a with
  | [] => some fun kk => kk (T.r (R.b true)) []
  | _ => none

theorem r23_17 : runF Go.Proofs.Try.prog re Go.Proofs.Ytcapaihnachkhaa.Hn 40 23 [] = some (T.r (R.b true), []) := by kernel_rfl

theorem o23_17 {β : Type} (N : Nat) : Snd (β := β) Go.Proofs.Try.prog Go.Proofs.Ytcapaihnachkhaa.Hn 23 M23_17 := by
  refine closed_ok r23_17 fun a h ha => ?_
  unfold M23_17 at ha
  split at ha
  · cases ha; exact ⟨rfl, rfl⟩
  · cases ha

def G61_20 {β : Type} (A : Pr) (B : Pk)  (x515 : Int) (x516 : Int) (x517 : Int) (x518 : Int) (k0 : Bool → Option β) : Option β :=
    match (A.cm BinOp.leq 0 x515) with
    | true => (match (A.cm BinOp.leq x515 x517) with
      | true => (match (A.cm BinOp.leq x517 4096) with
        | true => (match (A.cm BinOp.leq 0 x516) with
          | true => (match (A.cm BinOp.leq x516 x518) with
            | true => (k0 (A.cm BinOp.leq x518 4096))
            | false => (k0 Bool.false))
          | false => (k0 Bool.false))
        | false => (k0 Bool.false))
      | false => (k0 Bool.false))
    | false => (k0 Bool.false)

def F61_20 {β : Type} (A : Pr) (B : Pk) (N : Nat) (x515 : Int) (x516 : Int) (x517 : Int) (x518 : Int) (k0 : Bool → Option β) : Option β :=
  G61_20 A B  x515 x516 x517 x518 k0

def M61_20 {β : Type} (f61_20 : Int → Int → Int → Int → (Bool → Option β) → Option β) (a : List T) : Option ((T → List (List T) → Option β) → Option β) :=
  match gTs P0 a [] with
  | some [.i x515, .i x516, .i x517, .i x518] => some fun kk => f61_20 x515 x516 x517 x518 (fun y519 => kk (T.r (R.b y519)) [])
  | _ => none

theorem e61_20 {β : Type} (A : Pr) (B : Pk)  (x515 : Int) (x516 : Int) (x517 : Int) (x518 : Int) (kk : T → List (List T) → Option β) :
    uTs P0 [.i x515, .i x516, .i x517, .i x518] (fun a _ => bodyK (mkK Go.Proofs.Try.prog A B [] [] (Go.Proofs.Ytcapaihnachkhaa.Hn 61).pt []) Go.Proofs.Try.f61 a kk) = G61_20 A B  x515 x516 x517 x518 (fun y519 => kk (T.r (R.b y519)) []) := by kernel_rfl

theorem o61_20 {β : Type} (N : Nat) : Snd (β := β) Go.Proofs.Try.prog Go.Proofs.Ytcapaihnachkhaa.Hn 61 (M61_20 (F61_20 re rk N)) := by
  intro a h kk r ha hr
  unfold M61_20 at ha
  split at ha
  · rename_i hs
    cases ha
    have hk := via_pat hs ((e61_20 re rk  _ _ _ _ kk).trans hr)
    exact fn_ok (f := 61) (fn := Go.Proofs.Try.f61) (H := Go.Proofs.Ytcapaihnachkhaa.Hn) (by kernel_rfl) (show SndAll Go.Proofs.Try.prog Go.Proofs.Ytcapaihnachkhaa.Hn [] from trivial) (spots := []) (by kernel_rfl) trivial hk
  · cases ha

def G62_21 {β : Type} (A : Pr) (B : Pk)  (x521 : Int) (x522 : Int) (x523 : Int) (x524 : Int) (k0 : Bool → Option β) : Option β :=
    match (A.cm BinOp.geq x521 x523) with
    | true => (k0 Bool.true)
    | false => (k0 (A.cm BinOp.geq x522 x524))

def F62_21 {β : Type} (A : Pr) (B : Pk) (N : Nat) (x521 : Int) (x522 : Int) (x523 : Int) (x524 : Int) (k0 : Bool → Option β) : Option β :=
  G62_21 A B  x521 x522 x523 x524 k0

def M62_21 {β : Type} (f62_21 : Int → Int → Int → Int → (Bool → Option β) → Option β) (a : List T) : Option ((T → List (List T) → Option β) → Option β) :=
  match gTs P0 a [] with
  | some [.i x521, .i x522, .i x523, .i x524] => some fun kk => f62_21 x521 x522 x523 x524 (fun y525 => kk (T.r (R.b y525)) [])
  | _ => none

theorem e62_21 {β : Type} (A : Pr) (B : Pk)  (x521 : Int) (x522 : Int) (x523 : Int) (x524 : Int) (kk : T → List (List T) → Option β) :
    uTs P0 [.i x521, .i x522, .i x523, .i x524] (fun a _ => bodyK (mkK Go.Proofs.Try.prog A B [] [] (Go.Proofs.Ytcapaihnachkhaa.Hn 62).pt []) Go.Proofs.Try.f62 a kk) = G62_21 A B  x521 x522 x523 x524 (fun y525 => kk (T.r (R.b y525)) []) := by kernel_rfl

theorem o62_21 {β : Type} (N : Nat) : Snd (β := β) Go.Proofs.Try.prog Go.Proofs.Ytcapaihnachkhaa.Hn 62 (M62_21 (F62_21 re rk N)) := by
  intro a h kk r ha hr
  unfold M62_21 at ha
  split at ha
  · rename_i hs
    cases ha
    have hk := via_pat hs ((e62_21 re rk  _ _ _ _ kk).trans hr)
    exact fn_ok (f := 62) (fn := Go.Proofs.Try.f62) (H := Go.Proofs.Ytcapaihnachkhaa.Hn) (by kernel_rfl) (show SndAll Go.Proofs.Try.prog Go.Proofs.Ytcapaihnachkhaa.Hn [] from trivial) (spots := []) (by kernel_rfl) trivial hk
  · cases ha

noncomputable def X72_2 : Code := atF Go.Proofs.Try.f72 [true, false, true, false, false]
theorem i72_2 : firstReg X72_2 = 2 := by kernel_rfl

def GL72_2_0 {β : Type} (A : Pr) (B : Pk) (l72_2_0 : (Int → Int → Bool → Option β) → (Int → Int → Option β) → Int → Int → List R → Int → Int → Option β) (k0 : Int → Int → Bool → Option β) (k1 : Int → Int → Option β) (x530 : Int) (x531 : Int) (x532 : List R) (x533 : Int) (x534 : Int) : Option β :=
    match (A.cm BinOp.lss x534 x533) with
    | true => (match (A.ix x534 (A.len x532)) with
      | some i535 => (match (B.okE [(Sh.i IntKind.i64)] Bool.false x532 i535) with
        | true => (match (A.cm BinOp.lss (B.ci x532 i535 0) x530) with
          | true => (k0 x530 x531 Bool.false)
          | false => (match (A.cm BinOp.gtr (B.ci x532 i535 0) x531) with
            | true => (k0 x530 x531 Bool.false)
            | false => (l72_2_0 k0 k1 x530 x531 x532 x533 (A.ar BinOp.add IntKind.i64 x534 1))))
        | false => none)
      | none => none)
    | false => (k1 x530 x531)

def L72_2_0 {β : Type} (A : Pr) (B : Pk) (N : Nat) : Nat → (Int → Int → Bool → Option β) → (Int → Int → Option β) → Int → Int → List R → Int → Int → Option β
  | 0, _, _, _, _, _, _, _ => none
  | n + 1, k0, k1, x530, x531, x532, x533, x534 =>
    GL72_2_0 A B (L72_2_0 A B N n) k0 k1 x530 x531 x532 x533 x534

def P23 : List PT := [(.r (.i IntKind.i64)), (.r (.i IntKind.i64)), .us 4, (.r .b), .us 17]

def P24 : List PT := [(.r (.i IntKind.i64)), (.r (.i IntKind.i64)), .us 22]

def P25 : List PT := [(.r (.i IntKind.i64)), (.r (.i IntKind.i64)), .us 7, (.r (.ro 1)), (.r (.i IntKind.i64)), (.r (.i IntKind.i64)), .us 12]

noncomputable def M72_2 {β : Type} (l72_2_0 : (Int → Int → Bool → Option β) → (Int → Int → Option β) → Int → Int → List R → Int → Int → Option β) (s : List T) : Option ((Ex → List T → Option β) → Option β) :=
  match gTs P25 (clean ((Go.Proofs.Ytcapaihnachkhaa.Hn 72).lp 2).1 s) [] with
  | some [.i x530, .i x531, .l x532, .i x533, .i x534] => some fun kk => l72_2_0 (fun y536 y537 y538 => uTs P23 [.i y536, .i y537, .b y538] fun s _ => kk Ex.rt s) (fun y539 y540 => uTs P24 [.i y539, .i y540] fun s _ => kk (Ex.ex 0) s) x530 x531 x532 x533 x534
  | _ => none

theorem e72_2_0 {β : Type} (A : Pr) (B : Pk) (l72_2_0 : (Int → Int → Bool → Option β) → (Int → Int → Option β) → Int → Int → List R → Int → Int → Option β) (x530 : Int) (x531 : Int) (x532 : List R) (x533 : Int) (x534 : Int) (kk : Ex → List T → Option β) :
    uTs P25 [.i x530, .i x531, .l x532, .i x533, .i x534] (fun s _ => evK (mkK Go.Proofs.Try.prog A B [] [] (Go.Proofs.Ytcapaihnachkhaa.Hn 72).pt []) X72_2 s (fun e s' => match e with
      | .nm => (match M72_2 l72_2_0 s' with | some h => h kk | none => none)
      | .ex m => kk (.ex m) (clean ((Go.Proofs.Ytcapaihnachkhaa.Hn 72).lp (firstReg X72_2)).2 s')
      | .rt => kk .rt (clean ((Go.Proofs.Ytcapaihnachkhaa.Hn 72).lp (firstReg X72_2)).2 s'))) = GL72_2_0 A B l72_2_0 (fun y536 y537 y538 => uTs P23 [.i y536, .i y537, .b y538] fun s _ => kk Ex.rt s) (fun y539 y540 => uTs P24 [.i y539, .i y540] fun s _ => kk (Ex.ex 0) s) x530 x531 x532 x533 x534 := by kernel_rfl

theorem ol72_2 {β : Type} (N : Nat) : ∀ n, SndL (β := β) Go.Proofs.Try.prog Go.Proofs.Ytcapaihnachkhaa.Hn (Go.Proofs.Ytcapaihnachkhaa.Hn 72) X72_2 (M72_2 (L72_2_0 re rk N n))
  | 0 => by
    intro s h kk r ha hr
    unfold M72_2 at ha
    split at ha
    · cases ha; cases hr
    · cases ha
  | n + 1 => by
    have ih := ol72_2 (β := β) N n
    intro s h kk r ha hr
    unfold M72_2 at ha
    split at ha
    · rename_i hs
      cases ha
      have hk := via_pat hs ((e72_2_0 re rk (L72_2_0 re rk N n) _ _ _ _ _ kk).trans hr)
      exact round_ok (show SndAll Go.Proofs.Try.prog Go.Proofs.Ytcapaihnachkhaa.Hn [] from trivial) (spots := []) (by kernel_rfl) trivial ih (hd := clean ((Go.Proofs.Ytcapaihnachkhaa.Hn 72).lp 2).1 s) (by rw [i72_2]) hk
    · cases ha

def G72_22 {β : Type} (A : Pr) (B : Pk) (l72_2_0 : (Int → Int → Bool → Option β) → (Int → Int → Option β) → Int → Int → List R → Int → Int → Option β) (x527 : Int) (x528 : Int) (x529 : List R) (k0 : Bool → Option β) : Option β :=
    l72_2_0 (fun y551 y552 y553 =>
    k0 y553) (fun y554 y555 =>
    k0 Bool.true) x527 x528 x529 (A.on (A.len x529)) 0

def F72_22 {β : Type} (A : Pr) (B : Pk) (N : Nat) (x527 : Int) (x528 : Int) (x529 : List R) (k0 : Bool → Option β) : Option β :=
  G72_22 A B (L72_2_0 A B N N) x527 x528 x529 k0

def P26 : List PT := [(.r (.i IntKind.i64)), (.r (.i IntKind.i64)), (.r (.ro 1))]

def M72_22 {β : Type} (f72_22 : Int → Int → List R → (Bool → Option β) → Option β) (a : List T) : Option ((T → List (List T) → Option β) → Option β) :=
  match gTs P26 a [] with
  | some [.i x527, .i x528, .l x529] => some fun kk => f72_22 x527 x528 x529 (fun y556 => kk (T.r (R.b y556)) [])
  | _ => none

theorem e72_22 {β : Type} (A : Pr) (B : Pk) (l72_2_0 : (Int → Int → Bool → Option β) → (Int → Int → Option β) → Int → Int → List R → Int → Int → Option β) (x527 : Int) (x528 : Int) (x529 : List R) (kk : T → List (List T) → Option β) :
    uTs P26 [.i x527, .i x528, .l x529] (fun a _ => bodyK (mkK Go.Proofs.Try.prog A B [] [(2, M72_2 l72_2_0)] (Go.Proofs.Ytcapaihnachkhaa.Hn 72).pt []) Go.Proofs.Try.f72 a kk) = G72_22 A B l72_2_0 x527 x528 x529 (fun y556 => kk (T.r (R.b y556)) []) := by kernel_rfl

theorem o72_22 {β : Type} (N : Nat) : Snd (β := β) Go.Proofs.Try.prog Go.Proofs.Ytcapaihnachkhaa.Hn 72 (M72_22 (F72_22 re rk N)) := by
  intro a h kk r ha hr
  unfold M72_22 at ha
  split at ha
  · rename_i hs
    cases ha
    have hk := via_pat hs ((e72_22 re rk (L72_2_0 re rk N N) _ _ _ kk).trans hr)
    exact fn_ok (f := 72) (fn := Go.Proofs.Try.f72) (H := Go.Proofs.Ytcapaihnachkhaa.Hn) (by kernel_rfl) (show SndAll Go.Proofs.Try.prog Go.Proofs.Ytcapaihnachkhaa.Hn [] from trivial) (spots := [.lp X72_2]) (by kernel_rfl) ⟨cut_lp (id := 2) i72_2 (ol72_2 N N) (fun s kk => by kernel_rfl), trivial⟩ hk
  · cases ha

def G73_24 {β : Type} (A : Pr) (B : Pk)  (x579 : Int) (x580 : Int) (k0 : Int → Option β) : Option β :=
    match (A.cm BinOp.lss x580 1) with
    | true => (k0 0)
    | false => (match (A.nz x580) with
      | true => none
      | false => (match (A.nz x580) with
        | true => none
        | false => (match (A.cm BinOp.gtr (A.ar BinOp.rem IntKind.i64 x579 x580) 0) with
          | true => (k0 (A.ar BinOp.add IntKind.i64 (A.ar BinOp.quo IntKind.i64 x579 x580) 1))
          | false => (k0 (A.ar BinOp.quo IntKind.i64 x579 x580)))))

def F73_24 {β : Type} (A : Pr) (B : Pk) (N : Nat) (x579 : Int) (x580 : Int) (k0 : Int → Option β) : Option β :=
  G73_24 A B  x579 x580 k0

def M73_24 {β : Type} (f73_24 : Int → Int → (Int → Option β) → Option β) (a : List T) : Option ((T → List (List T) → Option β) → Option β) :=
  match gTs P2 a [] with
  | some [.i x579, .i x580] => some fun kk => f73_24 x579 x580 (fun y581 => kk (T.r (R.i IntKind.i64 y581)) [])
  | _ => none

theorem e73_24 {β : Type} (A : Pr) (B : Pk)  (x579 : Int) (x580 : Int) (kk : T → List (List T) → Option β) :
    uTs P2 [.i x579, .i x580] (fun a _ => bodyK (mkK Go.Proofs.Try.prog A B [] [] (Go.Proofs.Ytcapaihnachkhaa.Hn 73).pt []) Go.Proofs.Try.f73 a kk) = G73_24 A B  x579 x580 (fun y581 => kk (T.r (R.i IntKind.i64 y581)) []) := by kernel_rfl

theorem o73_24 {β : Type} (N : Nat) : Snd (β := β) Go.Proofs.Try.prog Go.Proofs.Ytcapaihnachkhaa.Hn 73 (M73_24 (F73_24 re rk N)) := by
  intro a h kk r ha hr
  unfold M73_24 at ha
  split at ha
  · rename_i hs
    cases ha
    have hk := via_pat hs ((e73_24 re rk  _ _ kk).trans hr)
    exact fn_ok (f := 73) (fn := Go.Proofs.Try.f73) (H := Go.Proofs.Ytcapaihnachkhaa.Hn) (by kernel_rfl) (show SndAll Go.Proofs.Try.prog Go.Proofs.Ytcapaihnachkhaa.Hn [] from trivial) (spots := []) (by kernel_rfl) trivial hk
  · cases ha

def G47_23 {β : Type} (A : Pr) (B : Pk) (f61_20 : Int → Int → Int → Int → (Bool → Option β) → Option β) (f73_24 : Int → Int → (Int → Option β) → Option β) (x572 : Int) (x573 : Int) (x574 : Int) (x575 : Int) (x576 : Int) (x577 : Int) (k0 : Int → Int → Int → Int → Option β) : Option β :=
    f61_20 x572 x573 x574 x575 (fun y578 =>
    match (A.bn y578) with
      | true => (k0 0 0 0 0)
      | false => (match (A.cm BinOp.lss x576 1) with
        | true => (k0 0 0 0 0)
        | false => (match (A.cm BinOp.gtr x576 4096) with
          | true => (k0 0 0 0 0)
          | false => (match (A.cm BinOp.lss x577 1) with
            | true => (k0 0 0 0 0)
            | false => (match (A.cm BinOp.gtr x577 4096) with
              | true => (k0 0 0 0 0)
              | false => (f73_24 x572 x576 (fun y582 =>
                f73_24 x573 x577 (fun y583 =>
                  f73_24 x574 x576 (fun y584 =>
                    f73_24 x575 x577 (fun y585 =>
                      k0 y582 y583 y584 y585))))))))))

def F47_23 {β : Type} (A : Pr) (B : Pk) (N : Nat) (x572 : Int) (x573 : Int) (x574 : Int) (x575 : Int) (x576 : Int) (x577 : Int) (k0 : Int → Int → Int → Int → Option β) : Option β :=
  G47_23 A B (F61_20 A B N) (F73_24 A B N) x572 x573 x574 x575 x576 x577 k0

def M47_23 {β : Type} (f47_23 : Int → Int → Int → Int → Int → Int → (Int → Int → Int → Int → Option β) → Option β) (a : List T) : Option ((T → List (List T) → Option β) → Option β) :=
  match gTs P3 a [] with
  | some [.i x572, .i x573, .i x574, .i x575, .i x576, .i x577] => some fun kk => f47_23 x572 x573 x574 x575 x576 x577 (fun y586 y587 y588 y589 => kk (T.r (R.a [(R.i IntKind.i64 y586), (R.i IntKind.i64 y587), (R.i IntKind.i64 y588), (R.i IntKind.i64 y589)])) [])
  | _ => none

theorem e47_23 {β : Type} (A : Pr) (B : Pk) (f61_20 : Int → Int → Int → Int → (Bool → Option β) → Option β) (f73_24 : Int → Int → (Int → Option β) → Option β) (x572 : Int) (x573 : Int) (x574 : Int) (x575 : Int) (x576 : Int) (x577 : Int) (kk : T → List (List T) → Option β) :
    uTs P3 [.i x572, .i x573, .i x574, .i x575, .i x576, .i x577] (fun a _ => bodyK (mkK Go.Proofs.Try.prog A B [(61, M61_20 f61_20), (73, M73_24 f73_24)] [] (Go.Proofs.Ytcapaihnachkhaa.Hn 47).pt []) Go.Proofs.Try.f47 a kk) = G47_23 A B f61_20 f73_24 x572 x573 x574 x575 x576 x577 (fun y586 y587 y588 y589 => kk (T.r (R.a [(R.i IntKind.i64 y586), (R.i IntKind.i64 y587), (R.i IntKind.i64 y588), (R.i IntKind.i64 y589)])) []) := by kernel_rfl

theorem o47_23 {β : Type} (N : Nat) : Snd (β := β) Go.Proofs.Try.prog Go.Proofs.Ytcapaihnachkhaa.Hn 47 (M47_23 (F47_23 re rk N)) := by
  intro a h kk r ha hr
  unfold M47_23 at ha
  split at ha
  · rename_i hs
    cases ha
    have hk := via_pat hs ((e47_23 re rk (F61_20 re rk N) (F73_24 re rk N) _ _ _ _ _ _ kk).trans hr)
    exact fn_ok (f := 47) (fn := Go.Proofs.Try.f47) (H := Go.Proofs.Ytcapaihnachkhaa.Hn) (by kernel_rfl) (show SndAll Go.Proofs.Try.prog Go.Proofs.Ytcapaihnachkhaa.Hn [(61, M61_20 (F61_20 re rk N)), (73, M73_24 (F73_24 re rk N))] from ⟨o61_20 N, o73_24 N, trivial⟩) (spots := []) (by kernel_rfl) trivial hk
  · cases ha

noncomputable def X45_4 : Code := atF Go.Proofs.Try.f45 [true, true, false, true, false, false]
theorem i45_4 : firstReg X45_4 = 4 := by kernel_rfl

def GL45_4_0 {β : Type} (A : Pr) (B : Pk) (f72_22 : Int → Int → List R → (Bool → Option β) → Option β) (f47_23 : Int → Int → Int → Int → Int → Int → (Int → Int → Int → Int → Option β) → Option β) (f62_21 : Int → Int → Int → Int → (Bool → Option β) → Option β) (l45_4_0 : (Int → Int → Int → Int → Int → Int → List R → Int → Option β) → (Int → Int → Int → Int → Int → Int → List R → Option β) → Int → Int → Int → Int → Int → Int → List R → List R → Int → Int → Option β) (k0 : Int → Int → Int → Int → Int → Int → List R → Int → Option β) (k1 : Int → Int → Int → Int → Int → Int → List R → Option β) (x559 : Int) (x560 : Int) (x561 : Int) (x562 : Int) (x563 : Int) (x564 : Int) (x565 : List R) (x566 : List R) (x567 : Int) (x568 : Int) : Option β :=
    match (A.cm BinOp.lss x568 x567) with
    | true => (match (A.ix x568 (A.len x566)) with
      | some i569 => (match (B.okE [(Sh.i IntKind.i64), Sh.b, (Sh.i IntKind.i64), (Sh.i IntKind.i64)] Bool.true x566 i569) with
        | true => (f72_22 1 16 [(R.i IntKind.i64 (B.ci x566 i569 0))] (fun y570 =>
          match (A.bn y570) with
            | true => (k0 x559 x560 x561 x562 x563 x564 x565 12)
            | false => (f72_22 1 4 [(R.i IntKind.i64 (B.ci x566 i569 2)), (R.i IntKind.i64 (B.ci x566 i569 3))] (fun y571 =>
              match (A.bn y571) with
                | true => (k0 x559 x560 x561 x562 x563 x564 x565 12)
                | false => (f47_23 x559 x560 x561 x562 (B.ci x566 i569 2) (B.ci x566 i569 3) (fun y590 y591 y592 y593 =>
                  f62_21 y590 y591 y592 y593 (fun y594 =>
                    match y594 with
                      | true => (k0 x559 x560 x561 x562 x563 x564 x565 12)
                      | false => (l45_4_0 k0 k1 x559 x560 x561 x562 x563 x564 x565 x566 x567 (A.ar BinOp.add IntKind.i64 x568 1)))))))))
        | false => none)
      | none => none)
    | false => (k1 x559 x560 x561 x562 x563 x564 x565)

def L45_4_0 {β : Type} (A : Pr) (B : Pk) (N : Nat) : Nat → (Int → Int → Int → Int → Int → Int → List R → Int → Option β) → (Int → Int → Int → Int → Int → Int → List R → Option β) → Int → Int → Int → Int → Int → Int → List R → List R → Int → Int → Option β
  | 0, _, _, _, _, _, _, _, _, _, _, _, _ => none
  | n + 1, k0, k1, x559, x560, x561, x562, x563, x564, x565, x566, x567, x568 =>
    GL45_4_0 A B (F72_22 A B N) (F47_23 A B N) (F62_21 A B N) (L45_4_0 A B N n) k0 k1 x559 x560 x561 x562 x563 x564 x565 x566 x567 x568

def P27 : List PT := [.us 1, (.bx [(.r (.i IntKind.i64)), (.r (.i IntKind.i64)), (.r (.i IntKind.i64)), (.r (.i IntKind.i64)), (.r (.i IntKind.i64)), (.r (.i IntKind.i64)), (.r (.ro 4))]), (.r (.i IntKind.i64)), .us 111]

def P28 : List PT := [.us 1, (.bx [(.r (.i IntKind.i64)), (.r (.i IntKind.i64)), (.r (.i IntKind.i64)), (.r (.i IntKind.i64)), (.r (.i IntKind.i64)), (.r (.i IntKind.i64)), (.r (.ro 4))]), .us 112]

def P29 : List PT := [.us 1, (.bx [(.r (.i IntKind.i64)), (.r (.i IntKind.i64)), (.r (.i IntKind.i64)), (.r (.i IntKind.i64)), (.r (.i IntKind.i64)), (.r (.i IntKind.i64)), (.r (.ro 4))]), .us 34, (.r (.ro 4)), (.r (.i IntKind.i64)), (.r (.i IntKind.i64)), .us 75]

noncomputable def M45_4 {β : Type} (l45_4_0 : (Int → Int → Int → Int → Int → Int → List R → Int → Option β) → (Int → Int → Int → Int → Int → Int → List R → Option β) → Int → Int → Int → Int → Int → Int → List R → List R → Int → Int → Option β) (s : List T) : Option ((Ex → List T → Option β) → Option β) :=
  match gTs P29 (clean ((Go.Proofs.Ytcapaihnachkhaa.Hn 45).lp 4).1 s) [] with
  | some [.i x559, .i x560, .i x561, .i x562, .i x563, .i x564, .l x565, .l x566, .i x567, .i x568] => some fun kk => l45_4_0 (fun y595 y596 y597 y598 y599 y600 y601 y602 => uTs P27 [.i y595, .i y596, .i y597, .i y598, .i y599, .i y600, .l y601, .i y602] fun s _ => kk Ex.rt s) (fun y603 y604 y605 y606 y607 y608 y609 => uTs P28 [.i y603, .i y604, .i y605, .i y606, .i y607, .i y608, .l y609] fun s _ => kk (Ex.ex 0) s) x559 x560 x561 x562 x563 x564 x565 x566 x567 x568
  | _ => none

theorem e45_4_0 {β : Type} (A : Pr) (B : Pk) (f72_22 : Int → Int → List R → (Bool → Option β) → Option β) (f47_23 : Int → Int → Int → Int → Int → Int → (Int → Int → Int → Int → Option β) → Option β) (f62_21 : Int → Int → Int → Int → (Bool → Option β) → Option β) (l45_4_0 : (Int → Int → Int → Int → Int → Int → List R → Int → Option β) → (Int → Int → Int → Int → Int → Int → List R → Option β) → Int → Int → Int → Int → Int → Int → List R → List R → Int → Int → Option β) (x559 : Int) (x560 : Int) (x561 : Int) (x562 : Int) (x563 : Int) (x564 : Int) (x565 : List R) (x566 : List R) (x567 : Int) (x568 : Int) (kk : Ex → List T → Option β) :
    uTs P29 [.i x559, .i x560, .i x561, .i x562, .i x563, .i x564, .l x565, .l x566, .i x567, .i x568] (fun s _ => evK (mkK Go.Proofs.Try.prog A B [(72, M72_22 f72_22), (47, M47_23 f47_23), (62, M62_21 f62_21)] [] (Go.Proofs.Ytcapaihnachkhaa.Hn 45).pt []) X45_4 s (fun e s' => match e with
      | .nm => (match M45_4 l45_4_0 s' with | some h => h kk | none => none)
      | .ex m => kk (.ex m) (clean ((Go.Proofs.Ytcapaihnachkhaa.Hn 45).lp (firstReg X45_4)).2 s')
      | .rt => kk .rt (clean ((Go.Proofs.Ytcapaihnachkhaa.Hn 45).lp (firstReg X45_4)).2 s'))) = GL45_4_0 A B f72_22 f47_23 f62_21 l45_4_0 (fun y595 y596 y597 y598 y599 y600 y601 y602 => uTs P27 [.i y595, .i y596, .i y597, .i y598, .i y599, .i y600, .l y601, .i y602] fun s _ => kk Ex.rt s) (fun y603 y604 y605 y606 y607 y608 y609 => uTs P28 [.i y603, .i y604, .i y605, .i y606, .i y607, .i y608, .l y609] fun s _ => kk (Ex.ex 0) s) x559 x560 x561 x562 x563 x564 x565 x566 x567 x568 := by kernel_rfl

theorem ol45_4 {β : Type} (N : Nat) : ∀ n, SndL (β := β) Go.Proofs.Try.prog Go.Proofs.Ytcapaihnachkhaa.Hn (Go.Proofs.Ytcapaihnachkhaa.Hn 45) X45_4 (M45_4 (L45_4_0 re rk N n))
  | 0 => by
    intro s h kk r ha hr
    unfold M45_4 at ha
    split at ha
    · cases ha; cases hr
    · cases ha
  | n + 1 => by
    have ih := ol45_4 (β := β) N n
    intro s h kk r ha hr
    unfold M45_4 at ha
    split at ha
    · rename_i hs
      cases ha
      have hk := via_pat hs ((e45_4_0 re rk (F72_22 re rk N) (F47_23 re rk N) (F62_21 re rk N) (L45_4_0 re rk N n) _ _ _ _ _ _ _ _ _ _ kk).trans hr)
      exact round_ok (show SndAll Go.Proofs.Try.prog Go.Proofs.Ytcapaihnachkhaa.Hn [(72, M72_22 (F72_22 re rk N)), (47, M47_23 (F47_23 re rk N)), (62, M62_21 (F62_21 re rk N))] from ⟨o72_22 N, o47_23 N, o62_21 N, trivial⟩) (spots := []) (by kernel_rfl) trivial ih (hd := clean ((Go.Proofs.Ytcapaihnachkhaa.Hn 45).lp 4).1 s) (by rw [i45_4]) hk
    · cases ha

def G74_25 {β : Type} (A : Pr) (B : Pk)  (x646 : Int) (x647 : Int) (k0 : Int → Option β) : Option β :=
    match (A.cm BinOp.lss x647 1) with
    | true => (k0 0)
    | false => (match (A.nz x647) with
      | true => none
      | false => (match (A.nz x647) with
        | true => none
        | false => (match (A.cm BinOp.lss (A.ar BinOp.rem IntKind.i64 x646 x647) 0) with
          | true => (k0 (A.ar BinOp.sub IntKind.i64 (A.ar BinOp.quo IntKind.i64 x646 x647) 1))
          | false => (k0 (A.ar BinOp.quo IntKind.i64 x646 x647)))))

def F74_25 {β : Type} (A : Pr) (B : Pk) (N : Nat) (x646 : Int) (x647 : Int) (k0 : Int → Option β) : Option β :=
  G74_25 A B  x646 x647 k0

def M74_25 {β : Type} (f74_25 : Int → Int → (Int → Option β) → Option β) (a : List T) : Option ((T → List (List T) → Option β) → Option β) :=
  match gTs P2 a [] with
  | some [.i x646, .i x647] => some fun kk => f74_25 x646 x647 (fun y648 => kk (T.r (R.i IntKind.i64 y648)) [])
  | _ => none

theorem e74_25 {β : Type} (A : Pr) (B : Pk)  (x646 : Int) (x647 : Int) (kk : T → List (List T) → Option β) :
    uTs P2 [.i x646, .i x647] (fun a _ => bodyK (mkK Go.Proofs.Try.prog A B [] [] (Go.Proofs.Ytcapaihnachkhaa.Hn 74).pt []) Go.Proofs.Try.f74 a kk) = G74_25 A B  x646 x647 (fun y648 => kk (T.r (R.i IntKind.i64 y648)) []) := by kernel_rfl

theorem o74_25 {β : Type} (N : Nat) : Snd (β := β) Go.Proofs.Try.prog Go.Proofs.Ytcapaihnachkhaa.Hn 74 (M74_25 (F74_25 re rk N)) := by
  intro a h kk r ha hr
  unfold M74_25 at ha
  split at ha
  · rename_i hs
    cases ha
    have hk := via_pat hs ((e74_25 re rk  _ _ kk).trans hr)
    exact fn_ok (f := 74) (fn := Go.Proofs.Try.f74) (H := Go.Proofs.Ytcapaihnachkhaa.Hn) (by kernel_rfl) (show SndAll Go.Proofs.Try.prog Go.Proofs.Ytcapaihnachkhaa.Hn [] from trivial) (spots := []) (by kernel_rfl) trivial hk
  · cases ha

def G75_26 {β : Type} (A : Pr) (B : Pk) (f61_20 : Int → Int → Int → Int → (Bool → Option β) → Option β) (x667 : Int) (x668 : Int) (x669 : Int) (x670 : Int) (k0 : Int → Option β) : Option β :=
    f61_20 x667 x668 x669 x670 (fun y671 =>
    match (A.bn y671) with
      | true => (k0 0)
      | false => (k0 (A.ar BinOp.mul IntKind.i64 (A.ar BinOp.sub IntKind.i64 x669 x667) (A.ar BinOp.sub IntKind.i64 x670 x668))))

def F75_26 {β : Type} (A : Pr) (B : Pk) (N : Nat) (x667 : Int) (x668 : Int) (x669 : Int) (x670 : Int) (k0 : Int → Option β) : Option β :=
  G75_26 A B (F61_20 A B N) x667 x668 x669 x670 k0

def M75_26 {β : Type} (f75_26 : Int → Int → Int → Int → (Int → Option β) → Option β) (a : List T) : Option ((T → List (List T) → Option β) → Option β) :=
  match gTs P0 a [] with
  | some [.i x667, .i x668, .i x669, .i x670] => some fun kk => f75_26 x667 x668 x669 x670 (fun y672 => kk (T.r (R.i IntKind.i64 y672)) [])
  | _ => none

theorem e75_26 {β : Type} (A : Pr) (B : Pk) (f61_20 : Int → Int → Int → Int → (Bool → Option β) → Option β) (x667 : Int) (x668 : Int) (x669 : Int) (x670 : Int) (kk : T → List (List T) → Option β) :
    uTs P0 [.i x667, .i x668, .i x669, .i x670] (fun a _ => bodyK (mkK Go.Proofs.Try.prog A B [(61, M61_20 f61_20)] [] (Go.Proofs.Ytcapaihnachkhaa.Hn 75).pt []) Go.Proofs.Try.f75 a kk) = G75_26 A B f61_20 x667 x668 x669 x670 (fun y672 => kk (T.r (R.i IntKind.i64 y672)) []) := by kernel_rfl

theorem o75_26 {β : Type} (N : Nat) : Snd (β := β) Go.Proofs.Try.prog Go.Proofs.Ytcapaihnachkhaa.Hn 75 (M75_26 (F75_26 re rk N)) := by
  intro a h kk r ha hr
  unfold M75_26 at ha
  split at ha
  · rename_i hs
    cases ha
    have hk := via_pat hs ((e75_26 re rk (F61_20 re rk N) _ _ _ _ kk).trans hr)
    exact fn_ok (f := 75) (fn := Go.Proofs.Try.f75) (H := Go.Proofs.Ytcapaihnachkhaa.Hn) (by kernel_rfl) (show SndAll Go.Proofs.Try.prog Go.Proofs.Ytcapaihnachkhaa.Hn [(61, M61_20 (F61_20 re rk N))] from ⟨o61_20 N, trivial⟩) (spots := []) (by kernel_rfl) trivial hk
  · cases ha

noncomputable def X45_14 : Code := atF Go.Proofs.Try.f45 [true, true, true, true, true, true, false, true, false, false]
theorem i45_14 : firstReg X45_14 = 14 := by kernel_rfl

def GL45_14_0 {β : Type} (A : Pr) (B : Pk) (f47_23 : Int → Int → Int → Int → Int → Int → (Int → Int → Int → Int → Option β) → Option β) (f75_26 : Int → Int → Int → Int → (Int → Option β) → Option β) (l45_14_0 : (Int → Option β) → (Option β) → Int → Int → Int → Int → Int → Int → List R → List R → Int → Int → Option β) (k0 : Int → Option β) (k1 : Option β) (x652 : Int) (x653 : Int) (x654 : Int) (x655 : Int) (x656 : Int) (x657 : Int) (x658 : List R) (x659 : List R) (x660 : Int) (x661 : Int) : Option β :=
    match (A.cm BinOp.lss x661 x660) with
    | true => (match (A.ix x661 (A.len x659)) with
      | some i662 => (match (B.okE [(Sh.i IntKind.i64), Sh.b, (Sh.i IntKind.i64), (Sh.i IntKind.i64)] Bool.true x659 i662) with
        | true => (f47_23 x652 x653 x654 x655 (B.ci x659 i662 2) (B.ci x659 i662 3) (fun y663 y664 y665 y666 =>
          f75_26 y663 y664 y665 y666 (fun y673 =>
            match (A.cm BinOp.gtr y673 1048576) with
              | true => (k0 5)
              | false => (l45_14_0 k0 k1 x652 x653 x654 x655 x656 x657 x658 x659 x660 (A.ar BinOp.add IntKind.i64 x661 1)))))
        | false => none)
      | none => none)
    | false => k1

def L45_14_0 {β : Type} (A : Pr) (B : Pk) (N : Nat) : Nat → (Int → Option β) → (Option β) → Int → Int → Int → Int → Int → Int → List R → List R → Int → Int → Option β
  | 0, _, _, _, _, _, _, _, _, _, _, _, _ => none
  | n + 1, k0, k1, x652, x653, x654, x655, x656, x657, x658, x659, x660, x661 =>
    GL45_14_0 A B (F47_23 A B N) (F75_26 A B N) (L45_14_0 A B N n) k0 k1 x652 x653 x654 x655 x656 x657 x658 x659 x660 x661

def P30 : List PT := [.us 2, (.r (.i IntKind.i64)), .us 111]

def P31 : List PT := [.us 114]

def P32 : List PT := [.us 1, (.bx [(.r (.i IntKind.i64)), (.r (.i IntKind.i64)), (.r (.i IntKind.i64)), (.r (.i IntKind.i64)), (.r (.i IntKind.i64)), (.r (.i IntKind.i64)), (.r (.ro 4))]), .us 96, (.r (.ro 4)), (.r (.i IntKind.i64)), (.r (.i IntKind.i64)), .us 13]

noncomputable def M45_14 {β : Type} (l45_14_0 : (Int → Option β) → (Option β) → Int → Int → Int → Int → Int → Int → List R → List R → Int → Int → Option β) (s : List T) : Option ((Ex → List T → Option β) → Option β) :=
  match gTs P32 (clean ((Go.Proofs.Ytcapaihnachkhaa.Hn 45).lp 14).1 s) [] with
  | some [.i x652, .i x653, .i x654, .i x655, .i x656, .i x657, .l x658, .l x659, .i x660, .i x661] => some fun kk => l45_14_0 (fun y674 => uTs P30 [.i y674] fun s _ => kk Ex.rt s) (uTs P31 [] fun s _ => kk (Ex.ex 2) s) x652 x653 x654 x655 x656 x657 x658 x659 x660 x661
  | _ => none

theorem e45_14_0 {β : Type} (A : Pr) (B : Pk) (f47_23 : Int → Int → Int → Int → Int → Int → (Int → Int → Int → Int → Option β) → Option β) (f75_26 : Int → Int → Int → Int → (Int → Option β) → Option β) (l45_14_0 : (Int → Option β) → (Option β) → Int → Int → Int → Int → Int → Int → List R → List R → Int → Int → Option β) (x652 : Int) (x653 : Int) (x654 : Int) (x655 : Int) (x656 : Int) (x657 : Int) (x658 : List R) (x659 : List R) (x660 : Int) (x661 : Int) (kk : Ex → List T → Option β) :
    uTs P32 [.i x652, .i x653, .i x654, .i x655, .i x656, .i x657, .l x658, .l x659, .i x660, .i x661] (fun s _ => evK (mkK Go.Proofs.Try.prog A B [(47, M47_23 f47_23), (75, M75_26 f75_26)] [] (Go.Proofs.Ytcapaihnachkhaa.Hn 45).pt []) X45_14 s (fun e s' => match e with
      | .nm => (match M45_14 l45_14_0 s' with | some h => h kk | none => none)
      | .ex m => kk (.ex m) (clean ((Go.Proofs.Ytcapaihnachkhaa.Hn 45).lp (firstReg X45_14)).2 s')
      | .rt => kk .rt (clean ((Go.Proofs.Ytcapaihnachkhaa.Hn 45).lp (firstReg X45_14)).2 s'))) = GL45_14_0 A B f47_23 f75_26 l45_14_0 (fun y674 => uTs P30 [.i y674] fun s _ => kk Ex.rt s) (uTs P31 [] fun s _ => kk (Ex.ex 2) s) x652 x653 x654 x655 x656 x657 x658 x659 x660 x661 := by kernel_rfl

theorem ol45_14 {β : Type} (N : Nat) : ∀ n, SndL (β := β) Go.Proofs.Try.prog Go.Proofs.Ytcapaihnachkhaa.Hn (Go.Proofs.Ytcapaihnachkhaa.Hn 45) X45_14 (M45_14 (L45_14_0 re rk N n))
  | 0 => by
    intro s h kk r ha hr
    unfold M45_14 at ha
    split at ha
    · cases ha; cases hr
    · cases ha
  | n + 1 => by
    have ih := ol45_14 (β := β) N n
    intro s h kk r ha hr
    unfold M45_14 at ha
    split at ha
    · rename_i hs
      cases ha
      have hk := via_pat hs ((e45_14_0 re rk (F47_23 re rk N) (F75_26 re rk N) (L45_14_0 re rk N n) _ _ _ _ _ _ _ _ _ _ kk).trans hr)
      exact round_ok (show SndAll Go.Proofs.Try.prog Go.Proofs.Ytcapaihnachkhaa.Hn [(47, M47_23 (F47_23 re rk N)), (75, M75_26 (F75_26 re rk N))] from ⟨o47_23 N, o75_26 N, trivial⟩) (spots := []) (by kernel_rfl) trivial ih (hd := clean ((Go.Proofs.Ytcapaihnachkhaa.Hn 45).lp 14).1 s) (by rw [i45_14]) hk
    · cases ha

def G45_19 {β : Type} (A : Pr) (B : Pk) (f61_20 : Int → Int → Int → Int → (Bool → Option β) → Option β) (f62_21 : Int → Int → Int → Int → (Bool → Option β) → Option β) (f72_22 : Int → Int → List R → (Bool → Option β) → Option β) (f73_24 : Int → Int → (Int → Option β) → Option β) (f74_25 : Int → Int → (Int → Option β) → Option β) (l45_4_0 : (Int → Int → Int → Int → Int → Int → List R → Int → Option β) → (Int → Int → Int → Int → Int → Int → List R → Option β) → Int → Int → Int → Int → Int → Int → List R → List R → Int → Int → Option β) (l45_14_0 : (Int → Option β) → (Option β) → Int → Int → Int → Int → Int → Int → List R → List R → Int → Int → Option β) (x508 : Int) (x509 : Int) (x510 : Int) (x511 : Int) (x512 : Int) (x513 : Int) (x514 : List R) (k0 : Int → Option β) : Option β :=
    f61_20 x508 x509 x510 x511 (fun y520 =>
    match (A.bn y520) with
      | true => (k0 12)
      | false => (f62_21 x508 x509 x510 x511 (fun y526 =>
        match y526 with
          | true => (k0 12)
          | false => (f72_22 1 4096 [(R.i IntKind.i64 x512), (R.i IntKind.i64 x513)] (fun y557 =>
            match (A.bn y557) with
              | true => (k0 12)
              | false => (f72_22 1 4 [(R.i IntKind.i64 (A.on (A.len x514)))] (fun y558 =>
                match (A.bn y558) with
                  | true => (k0 12)
                  | false => (l45_4_0 (fun y630 y631 y632 y633 y634 y635 y636 y637 =>
                    k0 y637) (fun y638 y639 y640 y641 y642 y643 y644 =>
                    f73_24 y640 y642 (fun y645 =>
                      f74_25 y638 y642 (fun y649 =>
                        f73_24 y641 y643 (fun y650 =>
                          f74_25 y639 y643 (fun y651 =>
                            match (A.cm BinOp.gtr (A.ar BinOp.mul IntKind.i64 (A.ar BinOp.sub IntKind.i64 y645 y649) (A.ar BinOp.sub IntKind.i64 y650 y651)) 1024) with
                              | true => (k0 5)
                              | false => (l45_14_0 (fun y695 =>
                                k0 y695) (k0 0) y638 y639 y640 y641 y642 y643 y644 y644 (A.on (A.len y644)) 0)))))) x508 x509 x510 x511 x512 x513 x514 x514 (A.on (A.len x514)) 0))))))))

def F45_19 {β : Type} (A : Pr) (B : Pk) (N : Nat) (x508 : Int) (x509 : Int) (x510 : Int) (x511 : Int) (x512 : Int) (x513 : Int) (x514 : List R) (k0 : Int → Option β) : Option β :=
  G45_19 A B (F61_20 A B N) (F62_21 A B N) (F72_22 A B N) (F73_24 A B N) (F74_25 A B N) (L45_4_0 A B N N) (L45_14_0 A B N N) x508 x509 x510 x511 x512 x513 x514 k0

def M45_19 {β : Type} (f45_19 : Int → Int → Int → Int → Int → Int → List R → (Int → Option β) → Option β) (a : List T) : Option ((T → List (List T) → Option β) → Option β) :=
  match gTs P7 a [] with
  | some [.i x508, .i x509, .i x510, .i x511, .i x512, .i x513, .l x514] => some fun kk => f45_19 x508 x509 x510 x511 x512 x513 x514 (fun y696 => kk (T.r (R.i IntKind.i64 y696)) [])
  | _ => none

theorem e45_19 {β : Type} (A : Pr) (B : Pk) (f61_20 : Int → Int → Int → Int → (Bool → Option β) → Option β) (f62_21 : Int → Int → Int → Int → (Bool → Option β) → Option β) (f72_22 : Int → Int → List R → (Bool → Option β) → Option β) (f73_24 : Int → Int → (Int → Option β) → Option β) (f74_25 : Int → Int → (Int → Option β) → Option β) (l45_4_0 : (Int → Int → Int → Int → Int → Int → List R → Int → Option β) → (Int → Int → Int → Int → Int → Int → List R → Option β) → Int → Int → Int → Int → Int → Int → List R → List R → Int → Int → Option β) (l45_14_0 : (Int → Option β) → (Option β) → Int → Int → Int → Int → Int → Int → List R → List R → Int → Int → Option β) (x508 : Int) (x509 : Int) (x510 : Int) (x511 : Int) (x512 : Int) (x513 : Int) (x514 : List R) (kk : T → List (List T) → Option β) :
    uTs P7 [.i x508, .i x509, .i x510, .i x511, .i x512, .i x513, .l x514] (fun a _ => bodyK (mkK Go.Proofs.Try.prog A B [(61, M61_20 f61_20), (62, M62_21 f62_21), (72, M72_22 f72_22), (73, M73_24 f73_24), (74, M74_25 f74_25)] [(4, M45_4 l45_4_0), (14, M45_14 l45_14_0)] (Go.Proofs.Ytcapaihnachkhaa.Hn 45).pt []) Go.Proofs.Try.f45 a kk) = G45_19 A B f61_20 f62_21 f72_22 f73_24 f74_25 l45_4_0 l45_14_0 x508 x509 x510 x511 x512 x513 x514 (fun y696 => kk (T.r (R.i IntKind.i64 y696)) []) := by kernel_rfl

theorem o45_19 {β : Type} (N : Nat) : Snd (β := β) Go.Proofs.Try.prog Go.Proofs.Ytcapaihnachkhaa.Hn 45 (M45_19 (F45_19 re rk N)) := by
  intro a h kk r ha hr
  unfold M45_19 at ha
  split at ha
  · rename_i hs
    cases ha
    have hk := via_pat hs ((e45_19 re rk (F61_20 re rk N) (F62_21 re rk N) (F72_22 re rk N) (F73_24 re rk N) (F74_25 re rk N) (L45_4_0 re rk N N) (L45_14_0 re rk N N) _ _ _ _ _ _ _ kk).trans hr)
    exact fn_ok (f := 45) (fn := Go.Proofs.Try.f45) (H := Go.Proofs.Ytcapaihnachkhaa.Hn) (by kernel_rfl) (show SndAll Go.Proofs.Try.prog Go.Proofs.Ytcapaihnachkhaa.Hn [(61, M61_20 (F61_20 re rk N)), (62, M62_21 (F62_21 re rk N)), (72, M72_22 (F72_22 re rk N)), (73, M73_24 (F73_24 re rk N)), (74, M74_25 (F74_25 re rk N))] from ⟨o61_20 N, o62_21 N, o72_22 N, o73_24 N, o74_25 N, trivial⟩) (spots := [.lp X45_4, .lp X45_14]) (by kernel_rfl) ⟨cut_lp (id := 4) i45_4 (ol45_4 N N) (fun s kk => by kernel_rfl), cut_lp (id := 14) i45_14 (ol45_14 N N) (fun s kk => by kernel_rfl), trivial⟩ hk
  · cases ha

def G46_27 {β : Type} (A : Pr) (B : Pk) (f61_20 : Int → Int → Int → Int → (Bool → Option β) → Option β) (f75_26 : Int → Int → Int → Int → (Int → Option β) → Option β) (x710 : Int) (x711 : Int) (x712 : Int) (x713 : Int) (x714 : List R) (k0 : Bool → Option β) : Option β :=
    f61_20 x710 x711 x712 x713 (fun y715 =>
    match y715 with
      | true => (f75_26 x710 x711 x712 x713 (fun y716 =>
        match (A.cm BinOp.leq y716 1048576) with
          | true => (f75_26 x710 x711 x712 x713 (fun y717 =>
            k0 (A.cm BinOp.eql (A.on (A.len x714)) y717)))
          | false => (k0 Bool.false)))
      | false => (k0 Bool.false))

def F46_27 {β : Type} (A : Pr) (B : Pk) (N : Nat) (x710 : Int) (x711 : Int) (x712 : Int) (x713 : Int) (x714 : List R) (k0 : Bool → Option β) : Option β :=
  G46_27 A B (F61_20 A B N) (F75_26 A B N) x710 x711 x712 x713 x714 k0

def P33 : List PT := [(.r (.a [(.i IntKind.i64), (.i IntKind.i64), (.i IntKind.i64), (.i IntKind.i64), (.ro 1)]))]

def M46_27 {β : Type} (f46_27 : Int → Int → Int → Int → List R → (Bool → Option β) → Option β) (a : List T) : Option ((T → List (List T) → Option β) → Option β) :=
  match gTs P33 a [] with
  | some [.i x710, .i x711, .i x712, .i x713, .l x714] => some fun kk => f46_27 x710 x711 x712 x713 x714 (fun y718 => kk (T.r (R.b y718)) [])
  | _ => none

theorem e46_27 {β : Type} (A : Pr) (B : Pk) (f61_20 : Int → Int → Int → Int → (Bool → Option β) → Option β) (f75_26 : Int → Int → Int → Int → (Int → Option β) → Option β) (x710 : Int) (x711 : Int) (x712 : Int) (x713 : Int) (x714 : List R) (kk : T → List (List T) → Option β) :
    uTs P33 [.i x710, .i x711, .i x712, .i x713, .l x714] (fun a _ => bodyK (mkK Go.Proofs.Try.prog A B [(61, M61_20 f61_20), (75, M75_26 f75_26)] [] (Go.Proofs.Ytcapaihnachkhaa.Hn 46).pt []) Go.Proofs.Try.f46 a kk) = G46_27 A B f61_20 f75_26 x710 x711 x712 x713 x714 (fun y718 => kk (T.r (R.b y718)) []) := by kernel_rfl

theorem o46_27 {β : Type} (N : Nat) : Snd (β := β) Go.Proofs.Try.prog Go.Proofs.Ytcapaihnachkhaa.Hn 46 (M46_27 (F46_27 re rk N)) := by
  intro a h kk r ha hr
  unfold M46_27 at ha
  split at ha
  · rename_i hs
    cases ha
    have hk := via_pat hs ((e46_27 re rk (F61_20 re rk N) (F75_26 re rk N) _ _ _ _ _ kk).trans hr)
    exact fn_ok (f := 46) (fn := Go.Proofs.Try.f46) (H := Go.Proofs.Ytcapaihnachkhaa.Hn) (by kernel_rfl) (show SndAll Go.Proofs.Try.prog Go.Proofs.Ytcapaihnachkhaa.Hn [(61, M61_20 (F61_20 re rk N)), (75, M75_26 (F75_26 re rk N))] from ⟨o61_20 N, o75_26 N, trivial⟩) (spots := []) (by kernel_rfl) trivial hk
  · cases ha

def G76_29 {β : Type} (A : Pr) (B : Pk)  (x728 : Int) (k0 : Bool → Option β) : Option β :=
    match (A.cm BinOp.geq x728 1) with
    | true => (k0 (A.cm BinOp.leq x728 16))
    | false => (k0 Bool.false)

def F76_29 {β : Type} (A : Pr) (B : Pk) (N : Nat) (x728 : Int) (k0 : Bool → Option β) : Option β :=
  G76_29 A B  x728 k0

def P34 : List PT := [(.r (.i IntKind.i64))]

def M76_29 {β : Type} (f76_29 : Int → (Bool → Option β) → Option β) (a : List T) : Option ((T → List (List T) → Option β) → Option β) :=
  match gTs P34 a [] with
  | some [.i x728] => some fun kk => f76_29 x728 (fun y729 => kk (T.r (R.b y729)) [])
  | _ => none

theorem e76_29 {β : Type} (A : Pr) (B : Pk)  (x728 : Int) (kk : T → List (List T) → Option β) :
    uTs P34 [.i x728] (fun a _ => bodyK (mkK Go.Proofs.Try.prog A B [] [] (Go.Proofs.Ytcapaihnachkhaa.Hn 76).pt []) Go.Proofs.Try.f76 a kk) = G76_29 A B  x728 (fun y729 => kk (T.r (R.b y729)) []) := by kernel_rfl

theorem o76_29 {β : Type} (N : Nat) : Snd (β := β) Go.Proofs.Try.prog Go.Proofs.Ytcapaihnachkhaa.Hn 76 (M76_29 (F76_29 re rk N)) := by
  intro a h kk r ha hr
  unfold M76_29 at ha
  split at ha
  · rename_i hs
    cases ha
    have hk := via_pat hs ((e76_29 re rk  _ kk).trans hr)
    exact fn_ok (f := 76) (fn := Go.Proofs.Try.f76) (H := Go.Proofs.Ytcapaihnachkhaa.Hn) (by kernel_rfl) (show SndAll Go.Proofs.Try.prog Go.Proofs.Ytcapaihnachkhaa.Hn [] from trivial) (spots := []) (by kernel_rfl) trivial hk
  · cases ha

def G48_28 {β : Type} (A : Pr) (B : Pk) (f76_29 : Int → (Bool → Option β) → Option β) (x724 : Int) (x725 : Bool) (x726 : Int) (x727 : Int) (k0 : Int → Int → Option β) : Option β :=
    f76_29 x724 (fun y730 =>
    match (A.bn y730) with
      | true => (k0 0 0)
      | false => (match x725 with
        | true => (match (A.sh (A.ar BinOp.sub IntKind.i64 x724 1)) with
          | true => (match (A.sh (A.ar BinOp.sub IntKind.i64 x724 1)) with
            | true => (k0 (A.ar BinOp.shl IntKind.i64 (-1) (A.ar BinOp.sub IntKind.i64 x724 1)) (A.ar BinOp.sub IntKind.i64 (A.ar BinOp.shl IntKind.i64 1 (A.ar BinOp.sub IntKind.i64 x724 1)) 1))
            | false => none)
          | false => none)
        | false => (match (A.sh x724) with
          | true => (k0 0 (A.ar BinOp.sub IntKind.i64 (A.ar BinOp.shl IntKind.i64 1 x724) 1))
          | false => none)))

def F48_28 {β : Type} (A : Pr) (B : Pk) (N : Nat) (x724 : Int) (x725 : Bool) (x726 : Int) (x727 : Int) (k0 : Int → Int → Option β) : Option β :=
  G48_28 A B (F76_29 A B N) x724 x725 x726 x727 k0

def P35 : List PT := [(.r (.a [(.i IntKind.i64), .b, (.i IntKind.i64), (.i IntKind.i64)]))]

def M48_28 {β : Type} (f48_28 : Int → Bool → Int → Int → (Int → Int → Option β) → Option β) (a : List T) : Option ((T → List (List T) → Option β) → Option β) :=
  match gTs P35 a [] with
  | some [.i x724, .b x725, .i x726, .i x727] => some fun kk => f48_28 x724 x725 x726 x727 (fun y731 y732 => kk (T.tp Bool.true [(T.r (R.i IntKind.i64 y731)), (T.r (R.i IntKind.i64 y732))]) [])
  | _ => none

theorem e48_28 {β : Type} (A : Pr) (B : Pk) (f76_29 : Int → (Bool → Option β) → Option β) (x724 : Int) (x725 : Bool) (x726 : Int) (x727 : Int) (kk : T → List (List T) → Option β) :
    uTs P35 [.i x724, .b x725, .i x726, .i x727] (fun a _ => bodyK (mkK Go.Proofs.Try.prog A B [(76, M76_29 f76_29)] [] (Go.Proofs.Ytcapaihnachkhaa.Hn 48).pt []) Go.Proofs.Try.f48 a kk) = G48_28 A B f76_29 x724 x725 x726 x727 (fun y731 y732 => kk (T.tp Bool.true [(T.r (R.i IntKind.i64 y731)), (T.r (R.i IntKind.i64 y732))]) []) := by kernel_rfl

theorem o48_28 {β : Type} (N : Nat) : Snd (β := β) Go.Proofs.Try.prog Go.Proofs.Ytcapaihnachkhaa.Hn 48 (M48_28 (F48_28 re rk N)) := by
  intro a h kk r ha hr
  unfold M48_28 at ha
  split at ha
  · rename_i hs
    cases ha
    have hk := via_pat hs ((e48_28 re rk (F76_29 re rk N) _ _ _ _ kk).trans hr)
    exact fn_ok (f := 48) (fn := Go.Proofs.Try.f48) (H := Go.Proofs.Ytcapaihnachkhaa.Hn) (by kernel_rfl) (show SndAll Go.Proofs.Try.prog Go.Proofs.Ytcapaihnachkhaa.Hn [(76, M76_29 (F76_29 re rk N))] from ⟨o76_29 N, trivial⟩) (spots := []) (by kernel_rfl) trivial hk
  · cases ha

noncomputable def X24_15 : Code := atF Go.Proofs.Try.f24 [true, true, true, true, false, true, false, false, true, true, false, false, true, true, true, true, true, false, false]
theorem i24_15 : firstReg X24_15 = 15 := by kernel_rfl

def GL24_15_0 {β : Type} (A : Pr) (B : Pk) (l24_15_0 : (Int → Int → Int → Int → Int → Int → Int → List R → List R → Int → Int → Option β) → (Int → Int → Int → Int → Int → Int → List R → List R → Int → Int → Option β) → Int → Int → Int → Int → Int → Int → List R → Int → Int → List R → Int → Int → List R → Int → Int → Option β) (k0 : Int → Int → Int → Int → Int → Int → Int → List R → List R → Int → Int → Option β) (k1 : Int → Int → Int → Int → Int → Int → List R → List R → Int → Int → Option β) (x735 : Int) (x736 : Int) (x737 : Int) (x738 : Int) (x739 : Int) (x740 : Int) (x741 : List R) (x742 : Int) (x743 : Int) (x744 : List R) (x745 : Int) (x746 : Int) (x747 : List R) (x748 : Int) (x749 : Int) : Option β :=
    match (A.cm BinOp.lss x749 x748) with
    | true => (match (A.ix x749 (A.len x747)) with
      | some i750 => (match (B.okE [(Sh.i IntKind.i64)] Bool.false x747 i750) with
        | true => (match (A.cm BinOp.lss (B.ci x747 i750 0) x742) with
          | true => (k0 2 x735 x736 x737 x738 x739 x740 x741 x744 x745 x746)
          | false => (match (A.cm BinOp.gtr (B.ci x747 i750 0) x743) with
            | true => (k0 2 x735 x736 x737 x738 x739 x740 x741 x744 x745 x746)
            | false => (l24_15_0 k0 k1 x735 x736 x737 x738 x739 x740 x741 x742 x743 x744 x745 x746 x747 x748 (A.ar BinOp.add IntKind.i64 x749 1))))
        | false => none)
      | none => none)
    | false => (k1 x735 x736 x737 x738 x739 x740 x741 x744 x745 x746)

def L24_15_0 {β : Type} (A : Pr) (B : Pk) (N : Nat) : Nat → (Int → Int → Int → Int → Int → Int → Int → List R → List R → Int → Int → Option β) → (Int → Int → Int → Int → Int → Int → List R → List R → Int → Int → Option β) → Int → Int → Int → Int → Int → Int → List R → Int → Int → List R → Int → Int → List R → Int → Int → Option β
  | 0, _, _, _, _, _, _, _, _, _, _, _, _, _, _, _, _, _ => none
  | n + 1, k0, k1, x735, x736, x737, x738, x739, x740, x741, x742, x743, x744, x745, x746, x747, x748, x749 =>
    GL24_15_0 A B (L24_15_0 A B N n) k0 k1 x735 x736 x737 x738 x739 x740 x741 x742 x743 x744 x745 x746 x747 x748 x749

def P36 : List PT := [.us 2, (.r (.i IntKind.i64)), (.bx [(.r (.i IntKind.i64)), (.r (.i IntKind.i64)), (.r (.i IntKind.i64)), (.r (.i IntKind.i64)), (.r (.i IntKind.i64)), (.r (.i IntKind.i64)), (.r (.ro 4))]), .us 23, (.r (.ro 5)), (.r (.i IntKind.i64)), (.r (.i IntKind.i64)), .us 46]

def P37 : List PT := [.us 3, (.bx [(.r (.i IntKind.i64)), (.r (.i IntKind.i64)), (.r (.i IntKind.i64)), (.r (.i IntKind.i64)), (.r (.i IntKind.i64)), (.r (.i IntKind.i64)), (.r (.ro 4))]), .us 23, (.r (.ro 5)), (.r (.i IntKind.i64)), (.r (.i IntKind.i64)), .us 46]

def P38 : List PT := [.us 3, (.bx [(.r (.i IntKind.i64)), (.r (.i IntKind.i64)), (.r (.i IntKind.i64)), (.r (.i IntKind.i64)), (.r (.i IntKind.i64)), (.r (.i IntKind.i64)), (.r (.ro 4))]), .us 4, (.r (.i IntKind.i64)), (.r (.i IntKind.i64)), .us 17, (.r (.ro 5)), (.r (.i IntKind.i64)), (.r (.i IntKind.i64)), .us 30, (.r (.ro 1)), (.r (.i IntKind.i64)), (.r (.i IntKind.i64)), .us 13]

noncomputable def M24_15 {β : Type} (l24_15_0 : (Int → Int → Int → Int → Int → Int → Int → List R → List R → Int → Int → Option β) → (Int → Int → Int → Int → Int → Int → List R → List R → Int → Int → Option β) → Int → Int → Int → Int → Int → Int → List R → Int → Int → List R → Int → Int → List R → Int → Int → Option β) (s : List T) : Option ((Ex → List T → Option β) → Option β) :=
  match gTs P38 (clean ((Go.Proofs.Ytcapaihnachkhaa.Hn 24).lp 15).1 s) [] with
  | some [.i x735, .i x736, .i x737, .i x738, .i x739, .i x740, .l x741, .i x742, .i x743, .l x744, .i x745, .i x746, .l x747, .i x748, .i x749] => some fun kk => l24_15_0 (fun y751 y752 y753 y754 y755 y756 y757 y758 y759 y760 y761 => uTs P36 [.i y751, .i y752, .i y753, .i y754, .i y755, .i y756, .i y757, .l y758, .l y759, .i y760, .i y761] fun s _ => kk Ex.rt s) (fun y762 y763 y764 y765 y766 y767 y768 y769 y770 y771 => uTs P37 [.i y762, .i y763, .i y764, .i y765, .i y766, .i y767, .l y768, .l y769, .i y770, .i y771] fun s _ => kk (Ex.ex 2) s) x735 x736 x737 x738 x739 x740 x741 x742 x743 x744 x745 x746 x747 x748 x749
  | _ => none

theorem e24_15_0 {β : Type} (A : Pr) (B : Pk) (l24_15_0 : (Int → Int → Int → Int → Int → Int → Int → List R → List R → Int → Int → Option β) → (Int → Int → Int → Int → Int → Int → List R → List R → Int → Int → Option β) → Int → Int → Int → Int → Int → Int → List R → Int → Int → List R → Int → Int → List R → Int → Int → Option β) (x735 : Int) (x736 : Int) (x737 : Int) (x738 : Int) (x739 : Int) (x740 : Int) (x741 : List R) (x742 : Int) (x743 : Int) (x744 : List R) (x745 : Int) (x746 : Int) (x747 : List R) (x748 : Int) (x749 : Int) (kk : Ex → List T → Option β) :
    uTs P38 [.i x735, .i x736, .i x737, .i x738, .i x739, .i x740, .l x741, .i x742, .i x743, .l x744, .i x745, .i x746, .l x747, .i x748, .i x749] (fun s _ => evK (mkK Go.Proofs.Try.prog A B [] [] (Go.Proofs.Ytcapaihnachkhaa.Hn 24).pt []) X24_15 s (fun e s' => match e with
      | .nm => (match M24_15 l24_15_0 s' with | some h => h kk | none => none)
      | .ex m => kk (.ex m) (clean ((Go.Proofs.Ytcapaihnachkhaa.Hn 24).lp (firstReg X24_15)).2 s')
      | .rt => kk .rt (clean ((Go.Proofs.Ytcapaihnachkhaa.Hn 24).lp (firstReg X24_15)).2 s'))) = GL24_15_0 A B l24_15_0 (fun y751 y752 y753 y754 y755 y756 y757 y758 y759 y760 y761 => uTs P36 [.i y751, .i y752, .i y753, .i y754, .i y755, .i y756, .i y757, .l y758, .l y759, .i y760, .i y761] fun s _ => kk Ex.rt s) (fun y762 y763 y764 y765 y766 y767 y768 y769 y770 y771 => uTs P37 [.i y762, .i y763, .i y764, .i y765, .i y766, .i y767, .l y768, .l y769, .i y770, .i y771] fun s _ => kk (Ex.ex 2) s) x735 x736 x737 x738 x739 x740 x741 x742 x743 x744 x745 x746 x747 x748 x749 := by kernel_rfl

theorem ol24_15 {β : Type} (N : Nat) : ∀ n, SndL (β := β) Go.Proofs.Try.prog Go.Proofs.Ytcapaihnachkhaa.Hn (Go.Proofs.Ytcapaihnachkhaa.Hn 24) X24_15 (M24_15 (L24_15_0 re rk N n))
  | 0 => by
    intro s h kk r ha hr
    unfold M24_15 at ha
    split at ha
    · cases ha; cases hr
    · cases ha
  | n + 1 => by
    have ih := ol24_15 (β := β) N n
    intro s h kk r ha hr
    unfold M24_15 at ha
    split at ha
    · rename_i hs
      cases ha
      have hk := via_pat hs ((e24_15_0 re rk (L24_15_0 re rk N n) _ _ _ _ _ _ _ _ _ _ _ _ _ _ _ kk).trans hr)
      exact round_ok (show SndAll Go.Proofs.Try.prog Go.Proofs.Ytcapaihnachkhaa.Hn [] from trivial) (spots := []) (by kernel_rfl) trivial ih (hd := clean ((Go.Proofs.Ytcapaihnachkhaa.Hn 24).lp 15).1 s) (by rw [i24_15]) hk
    · cases ha

noncomputable def X24_8 : Code := atF Go.Proofs.Try.f24 [true, true, true, true, false, true, false, false]
theorem i24_8 : firstReg X24_8 = 8 := by kernel_rfl

def GL24_8_0 {β : Type} (A : Pr) (B : Pk) (f46_27 : Int → Int → Int → Int → List R → (Bool → Option β) → Option β) (f47_23 : Int → Int → Int → Int → Int → Int → (Int → Int → Int → Int → Option β) → Option β) (f48_28 : Int → Bool → Int → Int → (Int → Int → Option β) → Option β) (l24_15_0 : (Int → Int → Int → Int → Int → Int → Int → List R → List R → Int → Int → Option β) → (Int → Int → Int → Int → Int → Int → List R → List R → Int → Int → Option β) → Int → Int → Int → Int → Int → Int → List R → Int → Int → List R → Int → Int → List R → Int → Int → Option β) (l24_8_0 : (Int → Option β) → (Option β) → Int → Int → Int → Int → Int → Int → List R → List R → Int → Int → Option β) (k0 : Int → Option β) (k1 : Option β) (x698 : Int) (x699 : Int) (x700 : Int) (x701 : Int) (x702 : Int) (x703 : Int) (x704 : List R) (x705 : List R) (x706 : Int) (x707 : Int) : Option β :=
    match (A.cm BinOp.lss x707 x706) with
    | true => (match (A.ix x707 (A.len x705)) with
      | some i708 => (match (B.okE [(Sh.i IntKind.i64), (Sh.i IntKind.i64), (Sh.i IntKind.i64), (Sh.i IntKind.i64), (Sh.sl 1 (Sh.i IntKind.i64))] Bool.true x705 i708) with
        | true => (match (A.ix x707 (A.len x704)) with
          | some i709 => (match (B.okE [(Sh.i IntKind.i64), Sh.b, (Sh.i IntKind.i64), (Sh.i IntKind.i64)] Bool.true x704 i709) with
            | true => (f46_27 (B.ci x705 i708 0) (B.ci x705 i708 1) (B.ci x705 i708 2) (B.ci x705 i708 3) (B.cl x705 i708 4) (fun y719 =>
              match (A.bn y719) with
                | true => (k0 1)
                | false => (f47_23 x698 x699 x700 x701 (B.ci x704 i709 2) (B.ci x704 i709 3) (fun y720 y721 y722 y723 =>
                  match (A.bn (A.ba (A.cm BinOp.eql (B.ci x705 i708 0) y720) (A.ba (A.cm BinOp.eql (B.ci x705 i708 1) y721) (A.ba (A.cm BinOp.eql (B.ci x705 i708 2) y722) (A.ba (A.cm BinOp.eql (B.ci x705 i708 3) y723) Bool.true))))) with
                    | true => (k0 1)
                    | false => (f48_28 (B.ci x704 i709 0) (B.cb x704 i709 1) (B.ci x704 i709 2) (B.ci x704 i709 3) (fun y733 y734 =>
                      l24_15_0 (fun y802 y803 y804 y805 y806 y807 y808 y809 y810 y811 y812 =>
                        k0 y802) (fun y813 y814 y815 y816 y817 y818 y819 y820 y821 y822 =>
                        l24_8_0 k0 k1 y813 y814 y815 y816 y817 y818 y819 y820 y821 (A.ar BinOp.add IntKind.i64 y822 1)) x698 x699 x700 x701 x702 x703 x704 y733 y734 x705 x706 x707 (B.cl x705 i708 4) (A.on (A.len (B.cl x705 i708 4))) 0))))))
            | false => none)
          | none => none)
        | false => none)
      | none => none)
    | false => k1

def L24_8_0 {β : Type} (A : Pr) (B : Pk) (N : Nat) : Nat → (Int → Option β) → (Option β) → Int → Int → Int → Int → Int → Int → List R → List R → Int → Int → Option β
  | 0, _, _, _, _, _, _, _, _, _, _, _, _ => none
  | n + 1, k0, k1, x698, x699, x700, x701, x702, x703, x704, x705, x706, x707 =>
    GL24_8_0 A B (F46_27 A B N) (F47_23 A B N) (F48_28 A B N) (L24_15_0 A B N N) (L24_8_0 A B N n) k0 k1 x698 x699 x700 x701 x702 x703 x704 x705 x706 x707

def P39 : List PT := [.us 2, (.r (.i IntKind.i64)), .us 73]

def P40 : List PT := [.us 76]

noncomputable def M24_8 {β : Type} (l24_8_0 : (Int → Option β) → (Option β) → Int → Int → Int → Int → Int → Int → List R → List R → Int → Int → Option β) (s : List T) : Option ((Ex → List T → Option β) → Option β) :=
  match gTs P37 (clean ((Go.Proofs.Ytcapaihnachkhaa.Hn 24).lp 8).1 s) [] with
  | some [.i x698, .i x699, .i x700, .i x701, .i x702, .i x703, .l x704, .l x705, .i x706, .i x707] => some fun kk => l24_8_0 (fun y823 => uTs P39 [.i y823] fun s _ => kk Ex.rt s) (uTs P40 [] fun s _ => kk (Ex.ex 0) s) x698 x699 x700 x701 x702 x703 x704 x705 x706 x707
  | _ => none

theorem e24_8_0 {β : Type} (A : Pr) (B : Pk) (f46_27 : Int → Int → Int → Int → List R → (Bool → Option β) → Option β) (f47_23 : Int → Int → Int → Int → Int → Int → (Int → Int → Int → Int → Option β) → Option β) (f48_28 : Int → Bool → Int → Int → (Int → Int → Option β) → Option β) (l24_15_0 : (Int → Int → Int → Int → Int → Int → Int → List R → List R → Int → Int → Option β) → (Int → Int → Int → Int → Int → Int → List R → List R → Int → Int → Option β) → Int → Int → Int → Int → Int → Int → List R → Int → Int → List R → Int → Int → List R → Int → Int → Option β) (l24_8_0 : (Int → Option β) → (Option β) → Int → Int → Int → Int → Int → Int → List R → List R → Int → Int → Option β) (x698 : Int) (x699 : Int) (x700 : Int) (x701 : Int) (x702 : Int) (x703 : Int) (x704 : List R) (x705 : List R) (x706 : Int) (x707 : Int) (kk : Ex → List T → Option β) :
    uTs P37 [.i x698, .i x699, .i x700, .i x701, .i x702, .i x703, .l x704, .l x705, .i x706, .i x707] (fun s _ => evK (mkK Go.Proofs.Try.prog A B [(46, M46_27 f46_27), (47, M47_23 f47_23), (48, M48_28 f48_28)] [(15, M24_15 l24_15_0)] (Go.Proofs.Ytcapaihnachkhaa.Hn 24).pt []) X24_8 s (fun e s' => match e with
      | .nm => (match M24_8 l24_8_0 s' with | some h => h kk | none => none)
      | .ex m => kk (.ex m) (clean ((Go.Proofs.Ytcapaihnachkhaa.Hn 24).lp (firstReg X24_8)).2 s')
      | .rt => kk .rt (clean ((Go.Proofs.Ytcapaihnachkhaa.Hn 24).lp (firstReg X24_8)).2 s'))) = GL24_8_0 A B f46_27 f47_23 f48_28 l24_15_0 l24_8_0 (fun y823 => uTs P39 [.i y823] fun s _ => kk Ex.rt s) (uTs P40 [] fun s _ => kk (Ex.ex 0) s) x698 x699 x700 x701 x702 x703 x704 x705 x706 x707 := by kernel_rfl

theorem ol24_8 {β : Type} (N : Nat) : ∀ n, SndL (β := β) Go.Proofs.Try.prog Go.Proofs.Ytcapaihnachkhaa.Hn (Go.Proofs.Ytcapaihnachkhaa.Hn 24) X24_8 (M24_8 (L24_8_0 re rk N n))
  | 0 => by
    intro s h kk r ha hr
    unfold M24_8 at ha
    split at ha
    · cases ha; cases hr
    · cases ha
  | n + 1 => by
    have ih := ol24_8 (β := β) N n
    intro s h kk r ha hr
    unfold M24_8 at ha
    split at ha
    · rename_i hs
      cases ha
      have hk := via_pat hs ((e24_8_0 re rk (F46_27 re rk N) (F47_23 re rk N) (F48_28 re rk N) (L24_15_0 re rk N N) (L24_8_0 re rk N n) _ _ _ _ _ _ _ _ _ _ kk).trans hr)
      exact round_ok (show SndAll Go.Proofs.Try.prog Go.Proofs.Ytcapaihnachkhaa.Hn [(46, M46_27 (F46_27 re rk N)), (47, M47_23 (F47_23 re rk N)), (48, M48_28 (F48_28 re rk N))] from ⟨o46_27 N, o47_23 N, o48_28 N, trivial⟩) (spots := [.lp X24_15]) (by kernel_rfl) ⟨cut_lp (id := 15) i24_15 (ol24_15 N N) (fun s kk => by kernel_rfl), trivial⟩ ih (hd := clean ((Go.Proofs.Ytcapaihnachkhaa.Hn 24).lp 8).1 s) (by rw [i24_8]) hk
    · cases ha

def G24_18 {β : Type} (A : Pr) (B : Pk) (f45_19 : Int → Int → Int → Int → Int → Int → List R → (Int → Option β) → Option β) (l24_8_0 : (Int → Option β) → (Option β) → Int → Int → Int → Int → Int → Int → List R → List R → Int → Int → Option β) (x500 : Int) (x501 : Int) (x502 : Int) (x503 : Int) (x504 : Int) (x505 : Int) (x506 : List R) (x507 : List R) (k0 : Int → Option β) : Option β :=
    f45_19 x500 x501 x502 x503 x504 x505 x506 (fun y697 =>
    match (A.cm BinOp.neq y697 0) with
      | true => (k0 y697)
      | false => (match (A.cm BinOp.neq (A.on (A.len x507)) (A.on (A.len x506))) with
        | true => (k0 4)
        | false => (l24_8_0 (fun y844 =>
          k0 y844) (k0 0) x500 x501 x502 x503 x504 x505 x506 x507 (A.on (A.len x507)) 0)))

def F24_18 {β : Type} (A : Pr) (B : Pk) (N : Nat) (x500 : Int) (x501 : Int) (x502 : Int) (x503 : Int) (x504 : Int) (x505 : Int) (x506 : List R) (x507 : List R) (k0 : Int → Option β) : Option β :=
  G24_18 A B (F45_19 A B N) (L24_8_0 A B N N) x500 x501 x502 x503 x504 x505 x506 x507 k0

def P41 : List PT := [(.r (.a [(.i IntKind.i64), (.i IntKind.i64), (.i IntKind.i64), (.i IntKind.i64), (.i IntKind.i64), (.i IntKind.i64), (.ro 4), (.ro 5)]))]

def M24_18 {β : Type} (f24_18 : Int → Int → Int → Int → Int → Int → List R → List R → (Int → Option β) → Option β) (a : List T) : Option ((T → List (List T) → Option β) → Option β) :=
  match gTs P41 a [] with
  | some [.i x500, .i x501, .i x502, .i x503, .i x504, .i x505, .l x506, .l x507] => some fun kk => f24_18 x500 x501 x502 x503 x504 x505 x506 x507 (fun y845 => kk (T.r (R.i IntKind.i64 y845)) [])
  | _ => none

theorem e24_18 {β : Type} (A : Pr) (B : Pk) (f45_19 : Int → Int → Int → Int → Int → Int → List R → (Int → Option β) → Option β) (l24_8_0 : (Int → Option β) → (Option β) → Int → Int → Int → Int → Int → Int → List R → List R → Int → Int → Option β) (x500 : Int) (x501 : Int) (x502 : Int) (x503 : Int) (x504 : Int) (x505 : Int) (x506 : List R) (x507 : List R) (kk : T → List (List T) → Option β) :
    uTs P41 [.i x500, .i x501, .i x502, .i x503, .i x504, .i x505, .l x506, .l x507] (fun a _ => bodyK (mkK Go.Proofs.Try.prog A B [(45, M45_19 f45_19)] [(8, M24_8 l24_8_0)] (Go.Proofs.Ytcapaihnachkhaa.Hn 24).pt []) Go.Proofs.Try.f24 a kk) = G24_18 A B f45_19 l24_8_0 x500 x501 x502 x503 x504 x505 x506 x507 (fun y845 => kk (T.r (R.i IntKind.i64 y845)) []) := by kernel_rfl

theorem o24_18 {β : Type} (N : Nat) : Snd (β := β) Go.Proofs.Try.prog Go.Proofs.Ytcapaihnachkhaa.Hn 24 (M24_18 (F24_18 re rk N)) := by
  intro a h kk r ha hr
  unfold M24_18 at ha
  split at ha
  · rename_i hs
    cases ha
    have hk := via_pat hs ((e24_18 re rk (F45_19 re rk N) (L24_8_0 re rk N N) _ _ _ _ _ _ _ _ kk).trans hr)
    exact fn_ok (f := 24) (fn := Go.Proofs.Try.f24) (H := Go.Proofs.Ytcapaihnachkhaa.Hn) (by kernel_rfl) (show SndAll Go.Proofs.Try.prog Go.Proofs.Ytcapaihnachkhaa.Hn [(45, M45_19 (F45_19 re rk N))] from ⟨o45_19 N, trivial⟩) (spots := [.lp X24_8]) (by kernel_rfl) ⟨cut_lp (id := 8) i24_8 (ol24_8 N N) (fun s kk => by kernel_rfl), trivial⟩ hk
  · cases ha

def G50_31 {β : Type} (A : Pr) (B : Pk) (f79_11 : Int → Int → Int → Int → (Int → Option β) → Option β) (f65_4 : Int → Int → Int → Int → (Bool → Option β) → Option β) (x869 : Int) (x870 : Int) (x871 : Int) (x872 : Int) (x873 : List R) (k0 : Bool → Option β) : Option β :=
    f79_11 x869 x870 x871 x872 (fun y874 =>
    f65_4 x869 x870 x871 x872 (fun y875 =>
      match y875 with
        | true => (match (A.cm BinOp.leq y874 1048576) with
          | true => (k0 (A.cm BinOp.eql (A.on (A.len x873)) y874))
          | false => (k0 Bool.false))
        | false => (k0 Bool.false)))

def F50_31 {β : Type} (A : Pr) (B : Pk) (N : Nat) (x869 : Int) (x870 : Int) (x871 : Int) (x872 : Int) (x873 : List R) (k0 : Bool → Option β) : Option β :=
  G50_31 A B (F79_11 A B N) (F65_4 A B N) x869 x870 x871 x872 x873 k0

def M50_31 {β : Type} (f50_31 : Int → Int → Int → Int → List R → (Bool → Option β) → Option β) (a : List T) : Option ((T → List (List T) → Option β) → Option β) :=
  match gTs P33 a [] with
  | some [.i x869, .i x870, .i x871, .i x872, .l x873] => some fun kk => f50_31 x869 x870 x871 x872 x873 (fun y876 => kk (T.r (R.b y876)) [])
  | _ => none

theorem e50_31 {β : Type} (A : Pr) (B : Pk) (f79_11 : Int → Int → Int → Int → (Int → Option β) → Option β) (f65_4 : Int → Int → Int → Int → (Bool → Option β) → Option β) (x869 : Int) (x870 : Int) (x871 : Int) (x872 : Int) (x873 : List R) (kk : T → List (List T) → Option β) :
    uTs P33 [.i x869, .i x870, .i x871, .i x872, .l x873] (fun a _ => bodyK (mkK Go.Proofs.Try.prog A B [(79, M79_11 f79_11), (65, M65_4 f65_4)] [] (Go.Proofs.Ytcapaihnachkhaa.Hn 50).pt []) Go.Proofs.Try.f50 a kk) = G50_31 A B f79_11 f65_4 x869 x870 x871 x872 x873 (fun y876 => kk (T.r (R.b y876)) []) := by kernel_rfl

theorem o50_31 {β : Type} (N : Nat) : Snd (β := β) Go.Proofs.Try.prog Go.Proofs.Ytcapaihnachkhaa.Hn 50 (M50_31 (F50_31 re rk N)) := by
  intro a h kk r ha hr
  unfold M50_31 at ha
  split at ha
  · rename_i hs
    cases ha
    have hk := via_pat hs ((e50_31 re rk (F79_11 re rk N) (F65_4 re rk N) _ _ _ _ _ kk).trans hr)
    exact fn_ok (f := 50) (fn := Go.Proofs.Try.f50) (H := Go.Proofs.Ytcapaihnachkhaa.Hn) (by kernel_rfl) (show SndAll Go.Proofs.Try.prog Go.Proofs.Ytcapaihnachkhaa.Hn [(79, M79_11 (F79_11 re rk N)), (65, M65_4 (F65_4 re rk N))] from ⟨o79_11 N, o65_4 N, trivial⟩) (spots := []) (by kernel_rfl) trivial hk
  · cases ha

noncomputable def X81_3 : Code := atF Go.Proofs.Try.f81 [true, true, false, true, false, false]
theorem i81_3 : firstReg X81_3 = 3 := by kernel_rfl

def GL81_3_0 {β : Type} (A : Pr) (B : Pk) (l81_3_0 : (Int → Int → Option β) → Int → Int → Int → Option β) (k0 : Int → Int → Option β) (x887 : Int) (x888 : Int) (x889 : Int) : Option β :=
    match (A.cm BinOp.lss x889 x887) with
    | true => (l81_3_0 k0 x887 (A.ar BinOp.mul IntKind.i64 2 x888) (A.ar BinOp.add IntKind.i64 x889 1))
    | false => (k0 x887 x888)

def L81_3_0 {β : Type} (A : Pr) (B : Pk) (N : Nat) : Nat → (Int → Int → Option β) → Int → Int → Int → Option β
  | 0, _, _, _, _ => none
  | n + 1, k0, x887, x888, x889 =>
    GL81_3_0 A B (L81_3_0 A B N n) k0 x887 x888 x889

def P42 : List PT := [(.r (.i IntKind.i64)), .us 2, (.r (.i IntKind.i64)), .us 9]

def P43 : List PT := [(.r (.i IntKind.i64)), .us 2, (.r (.i IntKind.i64)), (.r (.i IntKind.i64)), .us 8]

noncomputable def M81_3 {β : Type} (l81_3_0 : (Int → Int → Option β) → Int → Int → Int → Option β) (s : List T) : Option ((Ex → List T → Option β) → Option β) :=
  match gTs P43 (clean ((Go.Proofs.Ytcapaihnachkhaa.Hn 81).lp 3).1 s) [] with
  | some [.i x887, .i x888, .i x889] => some fun kk => l81_3_0 (fun y890 y891 => uTs P42 [.i y890, .i y891] fun s _ => kk (Ex.ex 0) s) x887 x888 x889
  | _ => none

theorem e81_3_0 {β : Type} (A : Pr) (B : Pk) (l81_3_0 : (Int → Int → Option β) → Int → Int → Int → Option β) (x887 : Int) (x888 : Int) (x889 : Int) (kk : Ex → List T → Option β) :
    uTs P43 [.i x887, .i x888, .i x889] (fun s _ => evK (mkK Go.Proofs.Try.prog A B [] [] (Go.Proofs.Ytcapaihnachkhaa.Hn 81).pt []) X81_3 s (fun e s' => match e with
      | .nm => (match M81_3 l81_3_0 s' with | some h => h kk | none => none)
      | .ex m => kk (.ex m) (clean ((Go.Proofs.Ytcapaihnachkhaa.Hn 81).lp (firstReg X81_3)).2 s')
      | .rt => kk .rt (clean ((Go.Proofs.Ytcapaihnachkhaa.Hn 81).lp (firstReg X81_3)).2 s'))) = GL81_3_0 A B l81_3_0 (fun y890 y891 => uTs P42 [.i y890, .i y891] fun s _ => kk (Ex.ex 0) s) x887 x888 x889 := by kernel_rfl

theorem ol81_3 {β : Type} (N : Nat) : ∀ n, SndL (β := β) Go.Proofs.Try.prog Go.Proofs.Ytcapaihnachkhaa.Hn (Go.Proofs.Ytcapaihnachkhaa.Hn 81) X81_3 (M81_3 (L81_3_0 re rk N n))
  | 0 => by
    intro s h kk r ha hr
    unfold M81_3 at ha
    split at ha
    · cases ha; cases hr
    · cases ha
  | n + 1 => by
    have ih := ol81_3 (β := β) N n
    intro s h kk r ha hr
    unfold M81_3 at ha
    split at ha
    · rename_i hs
      cases ha
      have hk := via_pat hs ((e81_3_0 re rk (L81_3_0 re rk N n) _ _ _ kk).trans hr)
      exact round_ok (show SndAll Go.Proofs.Try.prog Go.Proofs.Ytcapaihnachkhaa.Hn [] from trivial) (spots := []) (by kernel_rfl) trivial ih (hd := clean ((Go.Proofs.Ytcapaihnachkhaa.Hn 81).lp 3).1 s) (by rw [i81_3]) hk
    · cases ha

def G81_33 {β : Type} (A : Pr) (B : Pk) (l81_3_0 : (Int → Int → Option β) → Int → Int → Int → Option β) (x886 : Int) (k0 : Int → Option β) : Option β :=
    l81_3_0 (fun y898 y899 =>
    k0 y899) x886 1 0

def F81_33 {β : Type} (A : Pr) (B : Pk) (N : Nat) (x886 : Int) (k0 : Int → Option β) : Option β :=
  G81_33 A B (L81_3_0 A B N N) x886 k0

def M81_33 {β : Type} (f81_33 : Int → (Int → Option β) → Option β) (a : List T) : Option ((T → List (List T) → Option β) → Option β) :=
  match gTs P34 a [] with
  | some [.i x886] => some fun kk => f81_33 x886 (fun y900 => kk (T.r (R.i IntKind.i64 y900)) [])
  | _ => none

theorem e81_33 {β : Type} (A : Pr) (B : Pk) (l81_3_0 : (Int → Int → Option β) → Int → Int → Int → Option β) (x886 : Int) (kk : T → List (List T) → Option β) :
    uTs P34 [.i x886] (fun a _ => bodyK (mkK Go.Proofs.Try.prog A B [] [(3, M81_3 l81_3_0)] (Go.Proofs.Ytcapaihnachkhaa.Hn 81).pt []) Go.Proofs.Try.f81 a kk) = G81_33 A B l81_3_0 x886 (fun y900 => kk (T.r (R.i IntKind.i64 y900)) []) := by kernel_rfl

theorem o81_33 {β : Type} (N : Nat) : Snd (β := β) Go.Proofs.Try.prog Go.Proofs.Ytcapaihnachkhaa.Hn 81 (M81_33 (F81_33 re rk N)) := by
  intro a h kk r ha hr
  unfold M81_33 at ha
  split at ha
  · rename_i hs
    cases ha
    have hk := via_pat hs ((e81_33 re rk (L81_3_0 re rk N N) _ kk).trans hr)
    exact fn_ok (f := 81) (fn := Go.Proofs.Try.f81) (H := Go.Proofs.Ytcapaihnachkhaa.Hn) (by kernel_rfl) (show SndAll Go.Proofs.Try.prog Go.Proofs.Ytcapaihnachkhaa.Hn [] from trivial) (spots := [.lp X81_3]) (by kernel_rfl) ⟨cut_lp (id := 3) i81_3 (ol81_3 N N) (fun s kk => by kernel_rfl), trivial⟩ hk
  · cases ha

def G52_32 {β : Type} (A : Pr) (B : Pk) (f81_33 : Int → (Int → Option β) → Option β) (x882 : Int) (x883 : Bool) (x884 : Int) (x885 : Int) (k0 : Int → Int → Option β) : Option β :=
    match (A.cm BinOp.lss x882 1) with
    | true => (k0 0 0)
    | false => (match (A.cm BinOp.gtr x882 16) with
      | true => (k0 0 0)
      | false => (f81_33 (A.ar BinOp.sub IntKind.i64 x882 1) (fun y901 =>
        match x883 with
          | true => (k0 (A.ar BinOp.sub IntKind.i64 0 y901) (A.ar BinOp.sub IntKind.i64 y901 1))
          | false => (k0 0 (A.ar BinOp.sub IntKind.i64 (A.ar BinOp.mul IntKind.i64 2 y901) 1)))))

def F52_32 {β : Type} (A : Pr) (B : Pk) (N : Nat) (x882 : Int) (x883 : Bool) (x884 : Int) (x885 : Int) (k0 : Int → Int → Option β) : Option β :=
  G52_32 A B (F81_33 A B N) x882 x883 x884 x885 k0

def M52_32 {β : Type} (f52_32 : Int → Bool → Int → Int → (Int → Int → Option β) → Option β) (a : List T) : Option ((T → List (List T) → Option β) → Option β) :=
  match gTs P35 a [] with
  | some [.i x882, .b x883, .i x884, .i x885] => some fun kk => f52_32 x882 x883 x884 x885 (fun y902 y903 => kk (T.tp Bool.true [(T.r (R.i IntKind.i64 y902)), (T.r (R.i IntKind.i64 y903))]) [])
  | _ => none

theorem e52_32 {β : Type} (A : Pr) (B : Pk) (f81_33 : Int → (Int → Option β) → Option β) (x882 : Int) (x883 : Bool) (x884 : Int) (x885 : Int) (kk : T → List (List T) → Option β) :
    uTs P35 [.i x882, .b x883, .i x884, .i x885] (fun a _ => bodyK (mkK Go.Proofs.Try.prog A B [(81, M81_33 f81_33)] [] (Go.Proofs.Ytcapaihnachkhaa.Hn 52).pt []) Go.Proofs.Try.f52 a kk) = G52_32 A B f81_33 x882 x883 x884 x885 (fun y902 y903 => kk (T.tp Bool.true [(T.r (R.i IntKind.i64 y902)), (T.r (R.i IntKind.i64 y903))]) []) := by kernel_rfl

theorem o52_32 {β : Type} (N : Nat) : Snd (β := β) Go.Proofs.Try.prog Go.Proofs.Ytcapaihnachkhaa.Hn 52 (M52_32 (F52_32 re rk N)) := by
  intro a h kk r ha hr
  unfold M52_32 at ha
  split at ha
  · rename_i hs
    cases ha
    have hk := via_pat hs ((e52_32 re rk (F81_33 re rk N) _ _ _ _ kk).trans hr)
    exact fn_ok (f := 52) (fn := Go.Proofs.Try.f52) (H := Go.Proofs.Ytcapaihnachkhaa.Hn) (by kernel_rfl) (show SndAll Go.Proofs.Try.prog Go.Proofs.Ytcapaihnachkhaa.Hn [(81, M81_33 (F81_33 re rk N))] from ⟨o81_33 N, trivial⟩) (spots := []) (by kernel_rfl) trivial hk
  · cases ha

noncomputable def X25_14 : Code := atF Go.Proofs.Try.f25 [true, true, true, false, true, false, false, true, true, false, false, true, true, true, true, true, false, false]
theorem i25_14 : firstReg X25_14 = 14 := by kernel_rfl

def GL25_14_0 {β : Type} (A : Pr) (B : Pk) (l25_14_0 : (Int → Int → Int → Int → Int → Int → List R → List R → Int → List R → Int → Int → Option β) → (Int → Int → Int → Int → Int → Int → List R → List R → List R → Int → Int → Option β) → Int → Int → Int → Int → Int → Int → List R → List R → Int → Int → List R → Int → Int → List R → Int → Int → Option β) (k0 : Int → Int → Int → Int → Int → Int → List R → List R → Int → List R → Int → Int → Option β) (k1 : Int → Int → Int → Int → Int → Int → List R → List R → List R → Int → Int → Option β) (x906 : Int) (x907 : Int) (x908 : Int) (x909 : Int) (x910 : Int) (x911 : Int) (x912 : List R) (x913 : List R) (x914 : Int) (x915 : Int) (x916 : List R) (x917 : Int) (x918 : Int) (x919 : List R) (x920 : Int) (x921 : Int) : Option β :=
    match (A.cm BinOp.lss x921 x920) with
    | true => (match (A.ix x921 (A.len x919)) with
      | some i922 => (match (B.okE [(Sh.i IntKind.i64)] Bool.false x919 i922) with
        | true => (match (A.cm BinOp.lss (B.ci x919 i922 0) x914) with
          | true => (k0 x906 x907 x908 x909 x910 x911 x912 x913 2 x916 x917 x918)
          | false => (match (A.cm BinOp.gtr (B.ci x919 i922 0) x915) with
            | true => (k0 x906 x907 x908 x909 x910 x911 x912 x913 2 x916 x917 x918)
            | false => (l25_14_0 k0 k1 x906 x907 x908 x909 x910 x911 x912 x913 x914 x915 x916 x917 x918 x919 x920 (A.ar BinOp.add IntKind.i64 x921 1))))
        | false => none)
      | none => none)
    | false => (k1 x906 x907 x908 x909 x910 x911 x912 x913 x916 x917 x918)

def L25_14_0 {β : Type} (A : Pr) (B : Pk) (N : Nat) : Nat → (Int → Int → Int → Int → Int → Int → List R → List R → Int → List R → Int → Int → Option β) → (Int → Int → Int → Int → Int → Int → List R → List R → List R → Int → Int → Option β) → Int → Int → Int → Int → Int → Int → List R → List R → Int → Int → List R → Int → Int → List R → Int → Int → Option β
  | 0, _, _, _, _, _, _, _, _, _, _, _, _, _, _, _, _, _, _ => none
  | n + 1, k0, k1, x906, x907, x908, x909, x910, x911, x912, x913, x914, x915, x916, x917, x918, x919, x920, x921 =>
    GL25_14_0 A B (L25_14_0 A B N n) k0 k1 x906 x907 x908 x909 x910 x911 x912 x913 x914 x915 x916 x917 x918 x919 x920 x921

def P44 : List PT := [.us 1, (.bx [(.r (.i IntKind.i64)), (.r (.i IntKind.i64)), (.r (.i IntKind.i64)), (.r (.i IntKind.i64)), (.r (.i IntKind.i64)), (.r (.i IntKind.i64)), (.r (.ro 4)), (.r (.ro 5))]), (.r (.i IntKind.i64)), .us 23, (.r (.ro 5)), (.r (.i IntKind.i64)), (.r (.i IntKind.i64)), .us 48]

def P45 : List PT := [.us 1, (.bx [(.r (.i IntKind.i64)), (.r (.i IntKind.i64)), (.r (.i IntKind.i64)), (.r (.i IntKind.i64)), (.r (.i IntKind.i64)), (.r (.i IntKind.i64)), (.r (.ro 4)), (.r (.ro 5))]), .us 24, (.r (.ro 5)), (.r (.i IntKind.i64)), (.r (.i IntKind.i64)), .us 48]

def P46 : List PT := [.us 1, (.bx [(.r (.i IntKind.i64)), (.r (.i IntKind.i64)), (.r (.i IntKind.i64)), (.r (.i IntKind.i64)), (.r (.i IntKind.i64)), (.r (.i IntKind.i64)), (.r (.ro 4)), (.r (.ro 5))]), .us 5, (.r (.i IntKind.i64)), (.r (.i IntKind.i64)), .us 17, (.r (.ro 5)), (.r (.i IntKind.i64)), (.r (.i IntKind.i64)), .us 32, (.r (.ro 1)), (.r (.i IntKind.i64)), (.r (.i IntKind.i64)), .us 13]

noncomputable def M25_14 {β : Type} (l25_14_0 : (Int → Int → Int → Int → Int → Int → List R → List R → Int → List R → Int → Int → Option β) → (Int → Int → Int → Int → Int → Int → List R → List R → List R → Int → Int → Option β) → Int → Int → Int → Int → Int → Int → List R → List R → Int → Int → List R → Int → Int → List R → Int → Int → Option β) (s : List T) : Option ((Ex → List T → Option β) → Option β) :=
  match gTs P46 (clean ((Go.Proofs.Ytcapaihnachkhaa.Hn 25).lp 14).1 s) [] with
  | some [.i x906, .i x907, .i x908, .i x909, .i x910, .i x911, .l x912, .l x913, .i x914, .i x915, .l x916, .i x917, .i x918, .l x919, .i x920, .i x921] => some fun kk => l25_14_0 (fun y923 y924 y925 y926 y927 y928 y929 y930 y931 y932 y933 y934 => uTs P44 [.i y923, .i y924, .i y925, .i y926, .i y927, .i y928, .l y929, .l y930, .i y931, .l y932, .i y933, .i y934] fun s _ => kk Ex.rt s) (fun y935 y936 y937 y938 y939 y940 y941 y942 y943 y944 y945 => uTs P45 [.i y935, .i y936, .i y937, .i y938, .i y939, .i y940, .l y941, .l y942, .l y943, .i y944, .i y945] fun s _ => kk (Ex.ex 2) s) x906 x907 x908 x909 x910 x911 x912 x913 x914 x915 x916 x917 x918 x919 x920 x921
  | _ => none

theorem e25_14_0 {β : Type} (A : Pr) (B : Pk) (l25_14_0 : (Int → Int → Int → Int → Int → Int → List R → List R → Int → List R → Int → Int → Option β) → (Int → Int → Int → Int → Int → Int → List R → List R → List R → Int → Int → Option β) → Int → Int → Int → Int → Int → Int → List R → List R → Int → Int → List R → Int → Int → List R → Int → Int → Option β) (x906 : Int) (x907 : Int) (x908 : Int) (x909 : Int) (x910 : Int) (x911 : Int) (x912 : List R) (x913 : List R) (x914 : Int) (x915 : Int) (x916 : List R) (x917 : Int) (x918 : Int) (x919 : List R) (x920 : Int) (x921 : Int) (kk : Ex → List T → Option β) :
    uTs P46 [.i x906, .i x907, .i x908, .i x909, .i x910, .i x911, .l x912, .l x913, .i x914, .i x915, .l x916, .i x917, .i x918, .l x919, .i x920, .i x921] (fun s _ => evK (mkK Go.Proofs.Try.prog A B [] [] (Go.Proofs.Ytcapaihnachkhaa.Hn 25).pt []) X25_14 s (fun e s' => match e with
      | .nm => (match M25_14 l25_14_0 s' with | some h => h kk | none => none)
      | .ex m => kk (.ex m) (clean ((Go.Proofs.Ytcapaihnachkhaa.Hn 25).lp (firstReg X25_14)).2 s')
      | .rt => kk .rt (clean ((Go.Proofs.Ytcapaihnachkhaa.Hn 25).lp (firstReg X25_14)).2 s'))) = GL25_14_0 A B l25_14_0 (fun y923 y924 y925 y926 y927 y928 y929 y930 y931 y932 y933 y934 => uTs P44 [.i y923, .i y924, .i y925, .i y926, .i y927, .i y928, .l y929, .l y930, .i y931, .l y932, .i y933, .i y934] fun s _ => kk Ex.rt s) (fun y935 y936 y937 y938 y939 y940 y941 y942 y943 y944 y945 => uTs P45 [.i y935, .i y936, .i y937, .i y938, .i y939, .i y940, .l y941, .l y942, .l y943, .i y944, .i y945] fun s _ => kk (Ex.ex 2) s) x906 x907 x908 x909 x910 x911 x912 x913 x914 x915 x916 x917 x918 x919 x920 x921 := by kernel_rfl

theorem ol25_14 {β : Type} (N : Nat) : ∀ n, SndL (β := β) Go.Proofs.Try.prog Go.Proofs.Ytcapaihnachkhaa.Hn (Go.Proofs.Ytcapaihnachkhaa.Hn 25) X25_14 (M25_14 (L25_14_0 re rk N n))
  | 0 => by
    intro s h kk r ha hr
    unfold M25_14 at ha
    split at ha
    · cases ha; cases hr
    · cases ha
  | n + 1 => by
    have ih := ol25_14 (β := β) N n
    intro s h kk r ha hr
    unfold M25_14 at ha
    split at ha
    · rename_i hs
      cases ha
      have hk := via_pat hs ((e25_14_0 re rk (L25_14_0 re rk N n) _ _ _ _ _ _ _ _ _ _ _ _ _ _ _ _ kk).trans hr)
      exact round_ok (show SndAll Go.Proofs.Try.prog Go.Proofs.Ytcapaihnachkhaa.Hn [] from trivial) (spots := []) (by kernel_rfl) trivial ih (hd := clean ((Go.Proofs.Ytcapaihnachkhaa.Hn 25).lp 14).1 s) (by rw [i25_14]) hk
    · cases ha

noncomputable def X25_7 : Code := atF Go.Proofs.Try.f25 [true, true, true, false, true, false, false]
theorem i25_7 : firstReg X25_7 = 7 := by kernel_rfl

def GL25_7_0 {β : Type} (A : Pr) (B : Pk) (f50_31 : Int → Int → Int → Int → List R → (Bool → Option β) → Option β) (f51_7 : Int → Int → Int → Int → Int → Int → (Int → Int → Int → Int → Option β) → Option β) (f52_32 : Int → Bool → Int → Int → (Int → Int → Option β) → Option β) (l25_14_0 : (Int → Int → Int → Int → Int → Int → List R → List R → Int → List R → Int → Int → Option β) → (Int → Int → Int → Int → Int → Int → List R → List R → List R → Int → Int → Option β) → Int → Int → Int → Int → Int → Int → List R → List R → Int → Int → List R → Int → Int → List R → Int → Int → Option β) (l25_7_0 : (Int → Option β) → (Option β) → Int → Int → Int → Int → Int → Int → List R → List R → List R → Int → Int → Option β) (k0 : Int → Option β) (k1 : Option β) (x856 : Int) (x857 : Int) (x858 : Int) (x859 : Int) (x860 : Int) (x861 : Int) (x862 : List R) (x863 : List R) (x864 : List R) (x865 : Int) (x866 : Int) : Option β :=
    match (A.cm BinOp.lss x866 x865) with
    | true => (match (A.ix x866 (A.len x864)) with
      | some i867 => (match (B.okE [(Sh.i IntKind.i64), (Sh.i IntKind.i64), (Sh.i IntKind.i64), (Sh.i IntKind.i64), (Sh.sl 1 (Sh.i IntKind.i64))] Bool.true x864 i867) with
        | true => (match (A.ix x866 (A.len x862)) with
          | some i868 => (match (B.okE [(Sh.i IntKind.i64), Sh.b, (Sh.i IntKind.i64), (Sh.i IntKind.i64)] Bool.true x862 i868) with
            | true => (f50_31 (B.ci x864 i867 0) (B.ci x864 i867 1) (B.ci x864 i867 2) (B.ci x864 i867 3) (B.cl x864 i867 4) (fun y877 =>
              match (A.bn y877) with
                | true => (k0 1)
                | false => (f51_7 x856 x857 x858 x859 (B.ci x862 i868 2) (B.ci x862 i868 3) (fun y878 y879 y880 y881 =>
                  match (A.bn (A.ba (A.cm BinOp.eql (B.ci x864 i867 0) y878) (A.ba (A.cm BinOp.eql (B.ci x864 i867 1) y879) (A.ba (A.cm BinOp.eql (B.ci x864 i867 2) y880) (A.ba (A.cm BinOp.eql (B.ci x864 i867 3) y881) Bool.true))))) with
                    | true => (k0 1)
                    | false => (f52_32 (B.ci x862 i868 0) (B.cb x862 i868 1) (B.ci x862 i868 2) (B.ci x862 i868 3) (fun y904 y905 =>
                      l25_14_0 (fun y978 y979 y980 y981 y982 y983 y984 y985 y986 y987 y988 y989 =>
                        k0 y986) (fun y990 y991 y992 y993 y994 y995 y996 y997 y998 y999 y1000 =>
                        l25_7_0 k0 k1 y990 y991 y992 y993 y994 y995 y996 y997 y998 y999 (A.ar BinOp.add IntKind.i64 y1000 1)) x856 x857 x858 x859 x860 x861 x862 x863 y904 y905 x864 x865 x866 (B.cl x864 i867 4) (A.on (A.len (B.cl x864 i867 4))) 0))))))
            | false => none)
          | none => none)
        | false => none)
      | none => none)
    | false => k1

def L25_7_0 {β : Type} (A : Pr) (B : Pk) (N : Nat) : Nat → (Int → Option β) → (Option β) → Int → Int → Int → Int → Int → Int → List R → List R → List R → Int → Int → Option β
  | 0, _, _, _, _, _, _, _, _, _, _, _, _, _ => none
  | n + 1, k0, k1, x856, x857, x858, x859, x860, x861, x862, x863, x864, x865, x866 =>
    GL25_7_0 A B (F50_31 A B N) (F51_7 A B N) (F52_32 A B N) (L25_14_0 A B N N) (L25_7_0 A B N n) k0 k1 x856 x857 x858 x859 x860 x861 x862 x863 x864 x865 x866

def P47 : List PT := [.us 2, (.r (.i IntKind.i64)), .us 74]

def P48 : List PT := [.us 77]

noncomputable def M25_7 {β : Type} (l25_7_0 : (Int → Option β) → (Option β) → Int → Int → Int → Int → Int → Int → List R → List R → List R → Int → Int → Option β) (s : List T) : Option ((Ex → List T → Option β) → Option β) :=
  match gTs P45 (clean ((Go.Proofs.Ytcapaihnachkhaa.Hn 25).lp 7).1 s) [] with
  | some [.i x856, .i x857, .i x858, .i x859, .i x860, .i x861, .l x862, .l x863, .l x864, .i x865, .i x866] => some fun kk => l25_7_0 (fun y1001 => uTs P47 [.i y1001] fun s _ => kk Ex.rt s) (uTs P48 [] fun s _ => kk (Ex.ex 0) s) x856 x857 x858 x859 x860 x861 x862 x863 x864 x865 x866
  | _ => none

theorem e25_7_0 {β : Type} (A : Pr) (B : Pk) (f50_31 : Int → Int → Int → Int → List R → (Bool → Option β) → Option β) (f51_7 : Int → Int → Int → Int → Int → Int → (Int → Int → Int → Int → Option β) → Option β) (f52_32 : Int → Bool → Int → Int → (Int → Int → Option β) → Option β) (l25_14_0 : (Int → Int → Int → Int → Int → Int → List R → List R → Int → List R → Int → Int → Option β) → (Int → Int → Int → Int → Int → Int → List R → List R → List R → Int → Int → Option β) → Int → Int → Int → Int → Int → Int → List R → List R → Int → Int → List R → Int → Int → List R → Int → Int → Option β) (l25_7_0 : (Int → Option β) → (Option β) → Int → Int → Int → Int → Int → Int → List R → List R → List R → Int → Int → Option β) (x856 : Int) (x857 : Int) (x858 : Int) (x859 : Int) (x860 : Int) (x861 : Int) (x862 : List R) (x863 : List R) (x864 : List R) (x865 : Int) (x866 : Int) (kk : Ex → List T → Option β) :
    uTs P45 [.i x856, .i x857, .i x858, .i x859, .i x860, .i x861, .l x862, .l x863, .l x864, .i x865, .i x866] (fun s _ => evK (mkK Go.Proofs.Try.prog A B [(50, M50_31 f50_31), (51, M51_7 f51_7), (52, M52_32 f52_32)] [(14, M25_14 l25_14_0)] (Go.Proofs.Ytcapaihnachkhaa.Hn 25).pt []) X25_7 s (fun e s' => match e with
      | .nm => (match M25_7 l25_7_0 s' with | some h => h kk | none => none)
      | .ex m => kk (.ex m) (clean ((Go.Proofs.Ytcapaihnachkhaa.Hn 25).lp (firstReg X25_7)).2 s')
      | .rt => kk .rt (clean ((Go.Proofs.Ytcapaihnachkhaa.Hn 25).lp (firstReg X25_7)).2 s'))) = GL25_7_0 A B f50_31 f51_7 f52_32 l25_14_0 l25_7_0 (fun y1001 => uTs P47 [.i y1001] fun s _ => kk Ex.rt s) (uTs P48 [] fun s _ => kk (Ex.ex 0) s) x856 x857 x858 x859 x860 x861 x862 x863 x864 x865 x866 := by kernel_rfl

theorem ol25_7 {β : Type} (N : Nat) : ∀ n, SndL (β := β) Go.Proofs.Try.prog Go.Proofs.Ytcapaihnachkhaa.Hn (Go.Proofs.Ytcapaihnachkhaa.Hn 25) X25_7 (M25_7 (L25_7_0 re rk N n))
  | 0 => by
    intro s h kk r ha hr
    unfold M25_7 at ha
    split at ha
    · cases ha; cases hr
    · cases ha
  | n + 1 => by
    have ih := ol25_7 (β := β) N n
    intro s h kk r ha hr
    unfold M25_7 at ha
    split at ha
    · rename_i hs
      cases ha
      have hk := via_pat hs ((e25_7_0 re rk (F50_31 re rk N) (F51_7 re rk N) (F52_32 re rk N) (L25_14_0 re rk N N) (L25_7_0 re rk N n) _ _ _ _ _ _ _ _ _ _ _ kk).trans hr)
      exact round_ok (show SndAll Go.Proofs.Try.prog Go.Proofs.Ytcapaihnachkhaa.Hn [(50, M50_31 (F50_31 re rk N)), (51, M51_7 (F51_7 re rk N)), (52, M52_32 (F52_32 re rk N))] from ⟨o50_31 N, o51_7 N, o52_32 N, trivial⟩) (spots := [.lp X25_14]) (by kernel_rfl) ⟨cut_lp (id := 14) i25_14 (ol25_14 N N) (fun s kk => by kernel_rfl), trivial⟩ ih (hd := clean ((Go.Proofs.Ytcapaihnachkhaa.Hn 25).lp 7).1 s) (by rw [i25_7]) hk
    · cases ha

def G25_30 {β : Type} (A : Pr) (B : Pk) (f49_3 : Int → Int → Int → Int → Int → Int → List R → (Int → Option β) → Option β) (l25_7_0 : (Int → Option β) → (Option β) → Int → Int → Int → Int → Int → Int → List R → List R → List R → Int → Int → Option β) (x847 : Int) (x848 : Int) (x849 : Int) (x850 : Int) (x851 : Int) (x852 : Int) (x853 : List R) (x854 : List R) (k0 : Int → Option β) : Option β :=
    f49_3 x847 x848 x849 x850 x851 x852 x853 (fun y855 =>
    match (A.cm BinOp.neq y855 0) with
      | true => (k0 y855)
      | false => (match (A.cm BinOp.neq (A.on (A.len x854)) (A.on (A.len x853))) with
        | true => (k0 4)
        | false => (l25_7_0 (fun y1024 =>
          k0 y1024) (k0 0) x847 x848 x849 x850 x851 x852 x853 x854 x854 (A.on (A.len x854)) 0)))

def F25_30 {β : Type} (A : Pr) (B : Pk) (N : Nat) (x847 : Int) (x848 : Int) (x849 : Int) (x850 : Int) (x851 : Int) (x852 : Int) (x853 : List R) (x854 : List R) (k0 : Int → Option β) : Option β :=
  G25_30 A B (F49_3 A B N) (L25_7_0 A B N N) x847 x848 x849 x850 x851 x852 x853 x854 k0

def M25_30 {β : Type} (f25_30 : Int → Int → Int → Int → Int → Int → List R → List R → (Int → Option β) → Option β) (a : List T) : Option ((T → List (List T) → Option β) → Option β) :=
  match gTs P41 a [] with
  | some [.i x847, .i x848, .i x849, .i x850, .i x851, .i x852, .l x853, .l x854] => some fun kk => f25_30 x847 x848 x849 x850 x851 x852 x853 x854 (fun y1025 => kk (T.r (R.i IntKind.i64 y1025)) [])
  | _ => none

theorem e25_30 {β : Type} (A : Pr) (B : Pk) (f49_3 : Int → Int → Int → Int → Int → Int → List R → (Int → Option β) → Option β) (l25_7_0 : (Int → Option β) → (Option β) → Int → Int → Int → Int → Int → Int → List R → List R → List R → Int → Int → Option β) (x847 : Int) (x848 : Int) (x849 : Int) (x850 : Int) (x851 : Int) (x852 : Int) (x853 : List R) (x854 : List R) (kk : T → List (List T) → Option β) :
    uTs P41 [.i x847, .i x848, .i x849, .i x850, .i x851, .i x852, .l x853, .l x854] (fun a _ => bodyK (mkK Go.Proofs.Try.prog A B [(49, M49_3 f49_3)] [(7, M25_7 l25_7_0)] (Go.Proofs.Ytcapaihnachkhaa.Hn 25).pt []) Go.Proofs.Try.f25 a kk) = G25_30 A B f49_3 l25_7_0 x847 x848 x849 x850 x851 x852 x853 x854 (fun y1025 => kk (T.r (R.i IntKind.i64 y1025)) []) := by kernel_rfl

theorem o25_30 {β : Type} (N : Nat) : Snd (β := β) Go.Proofs.Try.prog Go.Proofs.Ytcapaihnachkhaa.Hn 25 (M25_30 (F25_30 re rk N)) := by
  intro a h kk r ha hr
  unfold M25_30 at ha
  split at ha
  · rename_i hs
    cases ha
    have hk := via_pat hs ((e25_30 re rk (F49_3 re rk N) (L25_7_0 re rk N N) _ _ _ _ _ _ _ _ kk).trans hr)
    exact fn_ok (f := 25) (fn := Go.Proofs.Try.f25) (H := Go.Proofs.Ytcapaihnachkhaa.Hn) (by kernel_rfl) (show SndAll Go.Proofs.Try.prog Go.Proofs.Ytcapaihnachkhaa.Hn [(49, M49_3 (F49_3 re rk N))] from ⟨o49_3 N, trivial⟩) (spots := [.lp X25_7]) (by kernel_rfl) ⟨cut_lp (id := 7) i25_7 (ol25_7 N N) (fun s kk => by kernel_rfl), trivial⟩ hk
  · cases ha

def G8_0 {β : Type} (A : Pr) (B : Pk) (f22_1 : Int → Int → Int → Int → Int → Int → List R → List R → Int → Int → Int → Int → Int → Int → Int → Bool → Bool → Bool → Bool → Bool → Bool → Bool → Bool → Int → Int → (Bool → Option β) → Option β) (f24_18 : Int → Int → Int → Int → Int → Int → List R → List R → (Int → Option β) → Option β) (f25_30 : Int → Int → Int → Int → Int → Int → List R → List R → (Int → Option β) → Option β) (x1 : Int) (x2 : Int) (x3 : Int) (x4 : Int) (x5 : Int) (x6 : Int) (x7 : List R) (x8 : List R) (k0 : Bool → Option β) : Option β :=
    f22_1 x1 x2 x3 x4 x5 x6 x7 x8 0 0 0 0 0 0 0 Bool.false Bool.false Bool.false Bool.false Bool.false Bool.false Bool.false Bool.false 0 0 (fun y499 =>
    match (A.bn y499) with
      | true => (k0 Bool.true)
      | false => (f24_18 x1 x2 x3 x4 x5 x6 x7 x8 (fun y846 =>
        f25_30 x1 x2 x3 x4 x5 x6 x7 x8 (fun y1026 =>
          match (A.cm BinOp.eql y846 y1026) with
            | true => (k0 Bool.true)
            | false => (k0 Bool.false)))))

def F8_0 {β : Type} (A : Pr) (B : Pk) (N : Nat) (x1 : Int) (x2 : Int) (x3 : Int) (x4 : Int) (x5 : Int) (x6 : Int) (x7 : List R) (x8 : List R) (k0 : Bool → Option β) : Option β :=
  G8_0 A B (F22_1 A B N) (F24_18 A B N) (F25_30 A B N) x1 x2 x3 x4 x5 x6 x7 x8 k0

def M8_0 {β : Type} (f8_0 : Int → Int → Int → Int → Int → Int → List R → List R → (Bool → Option β) → Option β) (a : List T) : Option ((T → List (List T) → Option β) → Option β) :=
  match gTs P41 a [] with
  | some [.i x1, .i x2, .i x3, .i x4, .i x5, .i x6, .l x7, .l x8] => some fun kk => f8_0 x1 x2 x3 x4 x5 x6 x7 x8 (fun y1027 => kk (T.r (R.b y1027)) [])
  | _ => none

theorem e8_0 {β : Type} (A : Pr) (B : Pk) (f22_1 : Int → Int → Int → Int → Int → Int → List R → List R → Int → Int → Int → Int → Int → Int → Int → Bool → Bool → Bool → Bool → Bool → Bool → Bool → Bool → Int → Int → (Bool → Option β) → Option β) (f24_18 : Int → Int → Int → Int → Int → Int → List R → List R → (Int → Option β) → Option β) (f25_30 : Int → Int → Int → Int → Int → Int → List R → List R → (Int → Option β) → Option β) (x1 : Int) (x2 : Int) (x3 : Int) (x4 : Int) (x5 : Int) (x6 : Int) (x7 : List R) (x8 : List R) (kk : T → List (List T) → Option β) :
    uTs P41 [.i x1, .i x2, .i x3, .i x4, .i x5, .i x6, .l x7, .l x8] (fun a _ => bodyK (mkK Go.Proofs.Try.prog A B [(22, M22_1 f22_1), (23, M23_17), (24, M24_18 f24_18), (25, M25_30 f25_30)] [] (Go.Proofs.Ytcapaihnachkhaa.Hn 8).pt []) Go.Proofs.Try.f8 a kk) = G8_0 A B f22_1 f24_18 f25_30 x1 x2 x3 x4 x5 x6 x7 x8 (fun y1027 => kk (T.r (R.b y1027)) []) := by kernel_rfl

theorem o8_0 {β : Type} (N : Nat) : Snd (β := β) Go.Proofs.Try.prog Go.Proofs.Ytcapaihnachkhaa.Hn 8 (M8_0 (F8_0 re rk N)) := by
  intro a h kk r ha hr
  unfold M8_0 at ha
  split at ha
  · rename_i hs
    cases ha
    have hk := via_pat hs ((e8_0 re rk (F22_1 re rk N) (F24_18 re rk N) (F25_30 re rk N) _ _ _ _ _ _ _ _ kk).trans hr)
    exact fn_ok (f := 8) (fn := Go.Proofs.Try.f8) (H := Go.Proofs.Ytcapaihnachkhaa.Hn) (by kernel_rfl) (show SndAll Go.Proofs.Try.prog Go.Proofs.Ytcapaihnachkhaa.Hn [(22, M22_1 (F22_1 re rk N)), (23, M23_17), (24, M24_18 (F24_18 re rk N)), (25, M25_30 (F25_30 re rk N))] from ⟨o22_1 N, o23_17 N, o24_18 N, o25_30 N, trivial⟩) (spots := []) (by kernel_rfl) trivial hk
  · cases ha

end
