/-
  The functions' trees, printed by a program of ours.
-/
import Derived.Test.YtdjmknhhdkjklaaGreatH
set_option linter.unusedVariables false
set_option maxRecDepth 100000
namespace Go.Proofs.YtdjmknhhdkjklaaGreat
open Go.Os
section
abbrev pI : PT := .r (.i .i64)
abbrev pB : PT := .r .b
abbrev tI (x : Int) : T := .r (.i .i64 x)
abbrev tB (x : Bool) : T := .r (.b x)
abbrev Q0 (β : Type) := List R → Int → List R → List R → List R → Int → Int → Int → Int → Int → Int → List R → Int → Int → Option β
abbrev Q1 (β : Type) := List R → Int → List R → List R → List R → Int → List R → Int → Int → Option β
noncomputable def X10_4 : Code := atF Tryz.f10 [true, true, false, true, false, false]
theorem i10_4 : firstReg X10_4 = 4 := by kernel_rfl
def GL10_4_0 {β : Type} (A : Pr) (B : Pk) (l10_4_0 : (Bool → Option β) → (Option β) → List R → Int → Int → Option β) (k0 : Bool → Option β) (k1 : Option β) (x0 : List R) (x1 x2 : Int) : Option β :=
    match (A.cm .lss x2 x1) with
    | true => (match (A.ix x2 (A.len x0)) with
      | some x3 => (match (B.okE [(Sh.sl 1 (Sh.i .i64)), (Sh.sl 1 (Sh.i .i64))] true x0 x3) with
        | true => (match (A.cm .gtr (A.on (A.len (B.cl x0 x3 0))) 40) with
          | true => (k0 false)
          | false => (match (A.cm .gtr (A.on (A.len (B.cl x0 x3 1))) 40) with
            | true => (k0 false)
            | false => (l10_4_0 k0 k1 x0 x1 (A.ar .add .i64 x2 1))))
        | false => none)
      | none => none)
    | false => k1
def L10_4_0 {β : Type} (A : Pr) (B : Pk) (N : Nat) : Nat → (Bool → Option β) → (Option β) → List R → Int → Int → Option β
  | 0, _, _, _, _, _ => none
  | n + 1, k0, k1, x0, x1, x2 =>
    GL10_4_0 A B (L10_4_0 A B N n) k0 k1 x0 x1 x2
def P0 : List PT := [.us 6, pB, .us 32]
def S0 (x0 : Bool) : List T := (T.u :: T.u :: T.u :: T.u :: T.u :: T.u :: (tB x0) :: T.u :: T.u :: T.u :: T.u :: T.u :: T.u :: T.u :: T.u :: T.u :: T.u :: T.u :: T.u :: T.u :: T.u :: T.u :: T.u :: T.u :: T.u :: T.u :: T.u :: T.u :: T.u :: T.u :: T.u :: T.u :: T.u :: T.u :: T.u :: T.u :: T.u :: T.u :: T.u :: [])
def P1 : List PT := [.us 39]
def S1  : List T := (T.u :: T.u :: T.u :: T.u :: T.u :: T.u :: T.u :: T.u :: T.u :: T.u :: T.u :: T.u :: T.u :: T.u :: T.u :: T.u :: T.u :: T.u :: T.u :: T.u :: T.u :: T.u :: T.u :: T.u :: T.u :: T.u :: T.u :: T.u :: T.u :: T.u :: T.u :: T.u :: T.u :: T.u :: T.u :: T.u :: T.u :: T.u :: T.u :: [])
def P2 : List PT := [.us 22, (.r (.ro 2)), pI, pI, .us 14]
noncomputable def ML10_4 {β : Type} (l10_4_0 : (Bool → Option β) → (Option β) → List R → Int → Int → Option β) (s : List T) : Option ((Ex → List T → Option β) → Option β) :=
  match gTs P2 (clean ((Hn 10).lp 4).1 s) [] with
  | some [.l x0, .i x1, .i x2] => some fun kk => l10_4_0 (fun x3 => kk Ex.rt (S0 x3)) (kk (Ex.ex 0) (S1)) x0 x1 x2
  | _ => none
theorem e10_4_0 {β : Type} (A : Pr) (B : Pk) (l10_4_0 : (Bool → Option β) → (Option β) → List R → Int → Int → Option β) (x0 : List R) (x1 x2 : Int) (kk : Ex → List T → Option β) :
    uTs P2 [.l x0, .i x1, .i x2] (fun s _ => evK (mkK Tryz.prog A B [] [] (Hn 10).pt []) X10_4 s (fun e s' => match e with
      | .nm => (match ML10_4 l10_4_0 s' with | some h => h kk | none => none)
      | .ex m => kk (.ex m) (clean ((Hn 10).lp (firstReg X10_4)).2 s')
      | .rt => kk .rt (clean ((Hn 10).lp (firstReg X10_4)).2 s'))) = GL10_4_0 A B l10_4_0 (fun x3 => kk Ex.rt (S0 x3)) (kk (Ex.ex 0) (S1)) x0 x1 x2 := by kernel_rfl
theorem ol10_4 {β : Type} (N : Nat) : ∀ n, SndL (β := β) Tryz.prog Hn (Hn 10) X10_4 (ML10_4 (L10_4_0 re rk N n))
  | 0 => by
    intro s h kk r ha hr
    unfold ML10_4 at ha
    split at ha
    · cases ha; cases hr
    · cases ha
  | n + 1 => by
    have ih := ol10_4 (β := β) N n
    intro s h kk r ha hr
    unfold ML10_4 at ha
    split at ha
    · rename_i hs
      cases ha
      have hk := via_pat hs ((e10_4_0 re rk (L10_4_0 re rk N n) _ _ _ kk).trans hr)
      exact round_ok (show SndAll Tryz.prog Hn [] from trivial) (spots := []) (by kernel_rfl) trivial ih (hd := clean ((Hn 10).lp 4).1 s) (by rw [i10_4]) hk
    · cases ha
def G10_0 {β : Type} (A : Pr) (B : Pk) (l10_4_0 : (Bool → Option β) → (Option β) → List R → Int → Int → Option β) (x0 x1 x2 : List R) (k0 : Bool → Option β) : Option β :=
    match (A.cm .gtr (A.on (A.len x0)) 40) with
    | true => (k0 false)
    | false => (match (A.cm .gtr (A.on (A.len x1)) 50) with
      | true => (k0 false)
      | false => (match (A.cm .gtr (A.on (A.len x2)) 50) with
        | true => (k0 false)
        | false => (l10_4_0 (fun x3 =>
          k0 x3) (k0 true) x0 (A.on (A.len x0)) 0)))
def F10_0 {β : Type} (A : Pr) (B : Pk) (N : Nat) (x0 x1 x2 : List R) (k0 : Bool → Option β) : Option β :=
  G10_0 A B (L10_4_0 A B N N) x0 x1 x2 k0
def P3 : List PT := [(.r (.ro 2)), (.r (.ro 1)), (.r (.ro 1))]
def M10_0 {β : Type} (f10_0 : List R → List R → List R → (Bool → Option β) → Option β) (a : List T) : Option ((T → List (List T) → Option β) → Option β) :=
  match gTs P3 a [] with
  | some [.l x0, .l x1, .l x2] => some fun kk => f10_0 x0 x1 x2 (fun x3 => kk (tB x3) [])
  | _ => none
theorem e10_0 {β : Type} (A : Pr) (B : Pk) (l10_4_0 : (Bool → Option β) → (Option β) → List R → Int → Int → Option β) (x0 x1 x2 : List R) (kk : T → List (List T) → Option β) :
    uTs P3 [.l x0, .l x1, .l x2] (fun a _ => bodyK (mkK Tryz.prog A B [] [(4, ML10_4 l10_4_0)] (Hn 10).pt []) Tryz.f10 a kk) = G10_0 A B l10_4_0 x0 x1 x2 (fun x3 => kk (tB x3) []) := by kernel_rfl
theorem o10_0 {β : Type} (N : Nat) : Snd (β := β) Tryz.prog Hn 10 (M10_0 (F10_0 re rk N)) := by
  intro a h kk r ha hr
  unfold M10_0 at ha
  split at ha
  · rename_i hs
    cases ha
    have hk := via_pat hs ((e10_0 re rk (L10_4_0 re rk N N) _ _ _ kk).trans hr)
    exact fn_ok (f := 10) (fn := Tryz.f10) (H := Hn) (by kernel_rfl) (show SndAll Tryz.prog Hn [] from trivial) (spots := [.lp X10_4]) (by kernel_rfl) ⟨cut_lp (id := 4) i10_4 (ol10_4 N N) (fun s kk => by kernel_rfl), trivial⟩ hk
  · cases ha
def M9_0 {β : Type} (a : List T) : Option ((T → List (List T) → Option β) → Option β) :=
  match a with
  | [] => some fun kk => kk (tB true) []
  | _ => none
theorem r9_0 : runF Tryz.prog re Hn 40 9 [] = some (T.r (R.b true), []) := by kernel_rfl
theorem o9_0 {β : Type} (N : Nat) : Snd (β := β) Tryz.prog Hn 9 M9_0 := by
  refine closed_ok r9_0 fun a h ha => ?_
  unfold M9_0 at ha
  split at ha
  · cases ha; exact ⟨rfl, rfl⟩
  · cases ha
noncomputable def X43_5 : Code := atF Tryz.f43 [true, true, true, false, true, false, false]
theorem i43_5 : firstReg X43_5 = 5 := by kernel_rfl
def GL43_5_0 {β : Type} (A : Pr) (B : Pk) (l43_5_0 : (Bool → Option β) → (Option β) → List R → List R → Int → Int → Option β) (k0 : Bool → Option β) (k1 : Option β) (x0 x1 : List R) (x2 x3 : Int) : Option β :=
    match (A.cm .lss x3 x2) with
    | true => (match (A.cm .gtr x3 0) with
      | true => (match (A.ix x3 (A.len x0)) with
        | some x4 => (match (B.okE [(Sh.i .i64)] false x0 x4) with
          | true => (match (A.ix (A.ar .sub .i64 x3 1) (A.len x0)) with
            | some x5 => (match (B.okE [(Sh.i .i64)] false x0 x5) with
              | true => (match (A.cm .lss (B.ci x0 x4 0) (B.ci x0 x5 0)) with
                | true => (k0 false)
                | false => (match (A.ix x3 (A.len x1)) with
                  | some x6 => (match (B.okE [(Sh.i .i64)] false x1 x6) with
                    | true => (match (A.cm .lss (B.ci x1 x6 0) 0) with
                      | true => (k0 false)
                      | false => (match (A.ix x3 (A.len x1)) with
                        | some x7 => (match (B.okE [(Sh.i .i64)] false x1 x7) with
                          | true => (match (A.cm .gtr (B.ci x1 x7 0) 70368744177664) with
                            | true => (k0 false)
                            | false => (l43_5_0 k0 k1 x0 x1 x2 (A.ar .add .i64 x3 1)))
                          | false => none)
                        | none => none))
                    | false => none)
                  | none => none))
              | false => none)
            | none => none)
          | false => none)
        | none => none)
      | false => (match (A.ix x3 (A.len x1)) with
        | some x8 => (match (B.okE [(Sh.i .i64)] false x1 x8) with
          | true => (match (A.cm .lss (B.ci x1 x8 0) 0) with
            | true => (k0 false)
            | false => (match (A.ix x3 (A.len x1)) with
              | some x9 => (match (B.okE [(Sh.i .i64)] false x1 x9) with
                | true => (match (A.cm .gtr (B.ci x1 x9 0) 70368744177664) with
                  | true => (k0 false)
                  | false => (l43_5_0 k0 k1 x0 x1 x2 (A.ar .add .i64 x3 1)))
                | false => none)
              | none => none))
          | false => none)
        | none => none))
    | false => k1
def L43_5_0 {β : Type} (A : Pr) (B : Pk) (N : Nat) : Nat → (Bool → Option β) → (Option β) → List R → List R → Int → Int → Option β
  | 0, _, _, _, _, _, _ => none
  | n + 1, k0, k1, x0, x1, x2, x3 =>
    GL43_5_0 A B (L43_5_0 A B N n) k0 k1 x0 x1 x2 x3
def P4 : List PT := [.us 2, pB, .us 71]
def S4 (x0 : Bool) : List T := (T.u :: T.u :: (tB x0) :: T.u :: T.u :: T.u :: T.u :: T.u :: T.u :: T.u :: T.u :: T.u :: T.u :: T.u :: T.u :: T.u :: T.u :: T.u :: T.u :: T.u :: T.u :: T.u :: T.u :: T.u :: T.u :: T.u :: T.u :: T.u :: T.u :: T.u :: T.u :: T.u :: T.u :: T.u :: T.u :: T.u :: T.u :: T.u :: T.u :: T.u :: T.u :: T.u :: T.u :: T.u :: T.u :: T.u :: T.u :: T.u :: T.u :: T.u :: T.u :: T.u :: T.u :: T.u :: T.u :: T.u :: T.u :: T.u :: T.u :: T.u :: T.u :: T.u :: T.u :: T.u :: T.u :: T.u :: T.u :: T.u :: T.u :: T.u :: T.u :: T.u :: T.u :: T.u :: [])
def P5 : List PT := [.us 74]
def S5  : List T := (T.u :: T.u :: T.u :: T.u :: T.u :: T.u :: T.u :: T.u :: T.u :: T.u :: T.u :: T.u :: T.u :: T.u :: T.u :: T.u :: T.u :: T.u :: T.u :: T.u :: T.u :: T.u :: T.u :: T.u :: T.u :: T.u :: T.u :: T.u :: T.u :: T.u :: T.u :: T.u :: T.u :: T.u :: T.u :: T.u :: T.u :: T.u :: T.u :: T.u :: T.u :: T.u :: T.u :: T.u :: T.u :: T.u :: T.u :: T.u :: T.u :: T.u :: T.u :: T.u :: T.u :: T.u :: T.u :: T.u :: T.u :: T.u :: T.u :: T.u :: T.u :: T.u :: T.u :: T.u :: T.u :: T.u :: T.u :: T.u :: T.u :: T.u :: T.u :: T.u :: T.u :: T.u :: [])
def P6 : List PT := [.us 1, (.bx [(.r (.ro 1)), (.r (.ro 1))]), .us 35, pI, pI, .us 35]
noncomputable def ML43_5 {β : Type} (l43_5_0 : (Bool → Option β) → (Option β) → List R → List R → Int → Int → Option β) (s : List T) : Option ((Ex → List T → Option β) → Option β) :=
  match gTs P6 (clean ((Hn 43).lp 5).1 s) [] with
  | some [.l x0, .l x1, .i x2, .i x3] => some fun kk => l43_5_0 (fun x4 => kk Ex.rt (S4 x4)) (kk (Ex.ex 0) (S5)) x0 x1 x2 x3
  | _ => none
theorem e43_5_0 {β : Type} (A : Pr) (B : Pk) (l43_5_0 : (Bool → Option β) → (Option β) → List R → List R → Int → Int → Option β) (x0 x1 : List R) (x2 x3 : Int) (kk : Ex → List T → Option β) :
    uTs P6 [.l x0, .l x1, .i x2, .i x3] (fun s _ => evK (mkK Tryz.prog A B [] [] (Hn 43).pt []) X43_5 s (fun e s' => match e with
      | .nm => (match ML43_5 l43_5_0 s' with | some h => h kk | none => none)
      | .ex m => kk (.ex m) (clean ((Hn 43).lp (firstReg X43_5)).2 s')
      | .rt => kk .rt (clean ((Hn 43).lp (firstReg X43_5)).2 s'))) = GL43_5_0 A B l43_5_0 (fun x4 => kk Ex.rt (S4 x4)) (kk (Ex.ex 0) (S5)) x0 x1 x2 x3 := by kernel_rfl
theorem ol43_5 {β : Type} (N : Nat) : ∀ n, SndL (β := β) Tryz.prog Hn (Hn 43) X43_5 (ML43_5 (L43_5_0 re rk N n))
  | 0 => by
    intro s h kk r ha hr
    unfold ML43_5 at ha
    split at ha
    · cases ha; cases hr
    · cases ha
  | n + 1 => by
    have ih := ol43_5 (β := β) N n
    intro s h kk r ha hr
    unfold ML43_5 at ha
    split at ha
    · rename_i hs
      cases ha
      have hk := via_pat hs ((e43_5_0 re rk (L43_5_0 re rk N n) _ _ _ _ kk).trans hr)
      exact round_ok (show SndAll Tryz.prog Hn [] from trivial) (spots := []) (by kernel_rfl) trivial ih (hd := clean ((Hn 43).lp 5).1 s) (by rw [i43_5]) hk
    · cases ha
def G43_0 {β : Type} (A : Pr) (B : Pk) (l43_5_0 : (Bool → Option β) → (Option β) → List R → List R → Int → Int → Option β) (x0 x1 : List R) (k0 : Bool → Option β) : Option β :=
    match (A.cm .neq (A.on (A.len x0)) (A.on (A.len x1))) with
    | true => (k0 false)
    | false => (match (A.cm .lss (A.on (A.len x0)) 1) with
      | true => (k0 false)
      | false => (match (A.cm .gtr (A.on (A.len x0)) 179) with
        | true => (k0 false)
        | false => (match (A.ix 0 (A.len x0)) with
          | some x2 => (match (B.okE [(Sh.i .i64)] false x0 x2) with
            | true => (match (A.cm .neq (B.ci x0 x2 0) 0) with
              | true => (k0 false)
              | false => (match (A.ix (A.ar .sub .i64 (A.on (A.len x0)) 1) (A.len x0)) with
                | some x3 => (match (B.okE [(Sh.i .i64)] false x0 x3) with
                  | true => (match (A.cm .gtr (B.ci x0 x3 0) 65535) with
                    | true => (k0 false)
                    | false => (l43_5_0 (fun x4 =>
                      k0 x4) (k0 true) x0 x1 (A.on (A.len x0)) 0))
                  | false => none)
                | none => none))
            | false => none)
          | none => none)))
def F43_0 {β : Type} (A : Pr) (B : Pk) (N : Nat) (x0 x1 : List R) (k0 : Bool → Option β) : Option β :=
  G43_0 A B (L43_5_0 A B N N) x0 x1 k0
def P7 : List PT := [(.r (.a [(.ro 1), (.ro 1)]))]
def M43_0 {β : Type} (f43_0 : List R → List R → (Bool → Option β) → Option β) (a : List T) : Option ((T → List (List T) → Option β) → Option β) :=
  match gTs P7 a [] with
  | some [.l x0, .l x1] => some fun kk => f43_0 x0 x1 (fun x2 => kk (tB x2) [])
  | _ => none
theorem e43_0 {β : Type} (A : Pr) (B : Pk) (l43_5_0 : (Bool → Option β) → (Option β) → List R → List R → Int → Int → Option β) (x0 x1 : List R) (kk : T → List (List T) → Option β) :
    uTs P7 [.l x0, .l x1] (fun a _ => bodyK (mkK Tryz.prog A B [] [(5, ML43_5 l43_5_0)] (Hn 43).pt []) Tryz.f43 a kk) = G43_0 A B l43_5_0 x0 x1 (fun x2 => kk (tB x2) []) := by kernel_rfl
theorem o43_0 {β : Type} (N : Nat) : Snd (β := β) Tryz.prog Hn 43 (M43_0 (F43_0 re rk N)) := by
  intro a h kk r ha hr
  unfold M43_0 at ha
  split at ha
  · rename_i hs
    cases ha
    have hk := via_pat hs ((e43_0 re rk (L43_5_0 re rk N N) _ _ kk).trans hr)
    exact fn_ok (f := 43) (fn := Tryz.f43) (H := Hn) (by kernel_rfl) (show SndAll Tryz.prog Hn [] from trivial) (spots := [.lp X43_5]) (by kernel_rfl) ⟨cut_lp (id := 5) i43_5 (ol43_5 N N) (fun s kk => by kernel_rfl), trivial⟩ hk
  · cases ha
noncomputable def X26_4 : Code := atF Tryz.f26 [true, true, false, true, false, false]
theorem i26_4 : firstReg X26_4 = 4 := by kernel_rfl
def GL26_4_0 {β : Type} (A : Pr) (B : Pk) (f43_0 : List R → List R → (Bool → Option β) → Option β) (l26_4_0 : (Int → Option β) → (Option β) → List R → Int → Int → Option β) (k0 : Int → Option β) (k1 : Option β) (x0 : List R) (x1 x2 : Int) : Option β :=
    match (A.cm .lss x2 x1) with
    | true => (match (A.ix x2 (A.len x0)) with
      | some x3 => (match (B.okE [(Sh.sl 1 (Sh.i .i64)), (Sh.sl 1 (Sh.i .i64))] true x0 x3) with
        | true => (f43_0 (B.cl x0 x3 0) (B.cl x0 x3 1) (fun x4 =>
          match (A.bn x4) with
            | true => (k0 1)
            | false => (l26_4_0 k0 k1 x0 x1 (A.ar .add .i64 x2 1))))
        | false => none)
      | none => none)
    | false => k1
def L26_4_0 {β : Type} (A : Pr) (B : Pk) (N : Nat) : Nat → (Int → Option β) → (Option β) → List R → Int → Int → Option β
  | 0, _, _, _, _, _ => none
  | n + 1, k0, k1, x0, x1, x2 =>
    GL26_4_0 A B (F43_0 A B N) (L26_4_0 A B N n) k0 k1 x0 x1 x2
def P8 : List PT := [.us 2, pI, .us 15]
def S8 (x0 : Int) : List T := [T.u, T.u, (tI x0), T.u, T.u, T.u, T.u, T.u, T.u, T.u, T.u, T.u, T.u, T.u, T.u, T.u, T.u, T.u]
def P9 : List PT := [.us 18]
def S9  : List T := [T.u, T.u, T.u, T.u, T.u, T.u, T.u, T.u, T.u, T.u, T.u, T.u, T.u, T.u, T.u, T.u, T.u, T.u]
def P10 : List PT := [.us 8, (.r (.ro 2)), pI, pI, .us 7]
noncomputable def ML26_4 {β : Type} (l26_4_0 : (Int → Option β) → (Option β) → List R → Int → Int → Option β) (s : List T) : Option ((Ex → List T → Option β) → Option β) :=
  match gTs P10 (clean ((Hn 26).lp 4).1 s) [] with
  | some [.l x0, .i x1, .i x2] => some fun kk => l26_4_0 (fun x3 => kk Ex.rt (S8 x3)) (kk (Ex.ex 0) (S9)) x0 x1 x2
  | _ => none
theorem e26_4_0 {β : Type} (A : Pr) (B : Pk) (f43_0 : List R → List R → (Bool → Option β) → Option β) (l26_4_0 : (Int → Option β) → (Option β) → List R → Int → Int → Option β) (x0 : List R) (x1 x2 : Int) (kk : Ex → List T → Option β) :
    uTs P10 [.l x0, .i x1, .i x2] (fun s _ => evK (mkK Tryz.prog A B [(43, M43_0 f43_0)] [] (Hn 26).pt []) X26_4 s (fun e s' => match e with
      | .nm => (match ML26_4 l26_4_0 s' with | some h => h kk | none => none)
      | .ex m => kk (.ex m) (clean ((Hn 26).lp (firstReg X26_4)).2 s')
      | .rt => kk .rt (clean ((Hn 26).lp (firstReg X26_4)).2 s'))) = GL26_4_0 A B f43_0 l26_4_0 (fun x3 => kk Ex.rt (S8 x3)) (kk (Ex.ex 0) (S9)) x0 x1 x2 := by kernel_rfl
theorem ol26_4 {β : Type} (N : Nat) : ∀ n, SndL (β := β) Tryz.prog Hn (Hn 26) X26_4 (ML26_4 (L26_4_0 re rk N n))
  | 0 => by
    intro s h kk r ha hr
    unfold ML26_4 at ha
    split at ha
    · cases ha; cases hr
    · cases ha
  | n + 1 => by
    have ih := ol26_4 (β := β) N n
    intro s h kk r ha hr
    unfold ML26_4 at ha
    split at ha
    · rename_i hs
      cases ha
      have hk := via_pat hs ((e26_4_0 re rk (F43_0 re rk N) (L26_4_0 re rk N n) _ _ _ kk).trans hr)
      exact round_ok (show SndAll Tryz.prog Hn [(43, M43_0 (F43_0 re rk N))] from ⟨o43_0 N, trivial⟩) (spots := []) (by kernel_rfl) trivial ih (hd := clean ((Hn 26).lp 4).1 s) (by rw [i26_4]) hk
    · cases ha
def G26_0 {β : Type} (A : Pr) (B : Pk) (l26_4_0 : (Int → Option β) → (Option β) → List R → Int → Int → Option β) (x0 : List R) (k0 : Int → Option β) : Option β :=
    match (A.cm .gtr (A.on (A.len x0)) 65536) with
    | true => (k0 5)
    | false => (l26_4_0 (fun x1 =>
      k0 x1) (k0 0) x0 (A.on (A.len x0)) 0)
def F26_0 {β : Type} (A : Pr) (B : Pk) (N : Nat) (x0 : List R) (k0 : Int → Option β) : Option β :=
  G26_0 A B (L26_4_0 A B N N) x0 k0
def P11 : List PT := [(.r (.ro 2))]
def M26_0 {β : Type} (f26_0 : List R → (Int → Option β) → Option β) (a : List T) : Option ((T → List (List T) → Option β) → Option β) :=
  match gTs P11 a [] with
  | some [.l x0] => some fun kk => f26_0 x0 (fun x1 => kk (tI x1) [])
  | _ => none
theorem e26_0 {β : Type} (A : Pr) (B : Pk) (l26_4_0 : (Int → Option β) → (Option β) → List R → Int → Int → Option β) (x0 : List R) (kk : T → List (List T) → Option β) :
    uTs P11 [.l x0] (fun a _ => bodyK (mkK Tryz.prog A B [] [(4, ML26_4 l26_4_0)] (Hn 26).pt []) Tryz.f26 a kk) = G26_0 A B l26_4_0 x0 (fun x1 => kk (tI x1) []) := by kernel_rfl
theorem o26_0 {β : Type} (N : Nat) : Snd (β := β) Tryz.prog Hn 26 (M26_0 (F26_0 re rk N)) := by
  intro a h kk r ha hr
  unfold M26_0 at ha
  split at ha
  · rename_i hs
    cases ha
    have hk := via_pat hs ((e26_0 re rk (L26_4_0 re rk N N) _ kk).trans hr)
    exact fn_ok (f := 26) (fn := Tryz.f26) (H := Hn) (by kernel_rfl) (show SndAll Tryz.prog Hn [] from trivial) (spots := [.lp X26_4]) (by kernel_rfl) ⟨cut_lp (id := 4) i26_4 (ol26_4 N N) (fun s kk => by kernel_rfl), trivial⟩ hk
  · cases ha
noncomputable def X16_7 : Code := atF Tryz.f16 [true, true, true, false, true, false, false]
theorem i16_7 : firstReg X16_7 = 7 := by kernel_rfl
def GL16_7_0 {β : Type} (A : Pr) (B : Pk) (l16_7_0 : (List R → Int → Int → Int → Option β) → (List R → Int → Int → Option β) → List R → Int → Int → List R → Int → Int → Option β) (k0 : List R → Int → Int → Int → Option β) (k1 : List R → Int → Int → Option β) (x0 : List R) (x1 x2 : Int) (x3 : List R) (x4 x5 : Int) : Option β :=
    match (A.cm .lss x5 x4) with
    | true => (match (A.ix x5 (A.len x3)) with
      | some x6 => (match (B.okE [(Sh.sl 1 (Sh.i .i64)), (Sh.sl 1 (Sh.i .i64))] true x3 x6) with
        | true => (match (A.ix x5 (A.len x0)) with
          | some x7 => (match (B.okE [(Sh.i .i64)] false x0 x7) with
            | true => (match (A.cm .lss (B.ci x0 x7 0) 0) with
              | true => (k0 x0 0 0 2)
              | false => (match (A.cm .geq (B.ci x0 x7 0) (A.on (A.len (B.cl x3 x6 0)))) with
                | true => (k0 x0 0 0 2)
                | false => (match (A.ix (B.ci x0 x7 0) (A.len (B.cl x3 x6 0))) with
                  | some x8 => (match (B.okE [(Sh.i .i64)] false (B.cl x3 x6 0) x8) with
                    | true => (match (A.ix (B.ci x0 x7 0) (A.len (B.cl x3 x6 1))) with
                      | some x9 => (match (B.okE [(Sh.i .i64)] false (B.cl x3 x6 1) x9) with
                        | true => (l16_7_0 k0 k1 x0 (A.ar .add .i64 x1 (B.ci (B.cl x3 x6 0) x8 0)) (A.ar .add .i64 x2 (B.ci (B.cl x3 x6 1) x9 0)) x3 x4 (A.ar .add .i64 x5 1))
                        | false => none)
                      | none => none)
                    | false => none)
                  | none => none)))
            | false => none)
          | none => none)
        | false => none)
      | none => none)
    | false => (k1 x0 x1 x2)
def L16_7_0 {β : Type} (A : Pr) (B : Pk) (N : Nat) : Nat → (List R → Int → Int → Int → Option β) → (List R → Int → Int → Option β) → List R → Int → Int → List R → Int → Int → Option β
  | 0, _, _, _, _, _, _, _, _ => none
  | n + 1, k0, k1, x0, x1, x2, x3, x4, x5 =>
    GL16_7_0 A B (L16_7_0 A B N n) k0 k1 x0 x1 x2 x3 x4 x5
def P12 : List PT := [.us 1, (.r (.ro 1)), .us 2, pI, pI, pI, .us 51]
def S12 (x0 : List R) (x1 x2 x3 : Int) : List T := (T.u :: (T.r (R.ro 1 x0)) :: T.u :: T.u :: (tI x1) :: (tI x2) :: (tI x3) :: T.u :: T.u :: T.u :: T.u :: T.u :: T.u :: T.u :: T.u :: T.u :: T.u :: T.u :: T.u :: T.u :: T.u :: T.u :: T.u :: T.u :: T.u :: T.u :: T.u :: T.u :: T.u :: T.u :: T.u :: T.u :: T.u :: T.u :: T.u :: T.u :: T.u :: T.u :: T.u :: T.u :: T.u :: T.u :: T.u :: T.u :: T.u :: T.u :: T.u :: T.u :: T.u :: T.u :: T.u :: T.u :: T.u :: T.u :: T.u :: T.u :: T.u :: T.u :: [])
def P13 : List PT := [.us 1, (.r (.ro 1)), .us 2, pI, pI, .us 52]
def S13 (x0 : List R) (x1 x2 : Int) : List T := (T.u :: (T.r (R.ro 1 x0)) :: T.u :: T.u :: (tI x1) :: (tI x2) :: T.u :: T.u :: T.u :: T.u :: T.u :: T.u :: T.u :: T.u :: T.u :: T.u :: T.u :: T.u :: T.u :: T.u :: T.u :: T.u :: T.u :: T.u :: T.u :: T.u :: T.u :: T.u :: T.u :: T.u :: T.u :: T.u :: T.u :: T.u :: T.u :: T.u :: T.u :: T.u :: T.u :: T.u :: T.u :: T.u :: T.u :: T.u :: T.u :: T.u :: T.u :: T.u :: T.u :: T.u :: T.u :: T.u :: T.u :: T.u :: T.u :: T.u :: T.u :: T.u :: [])
def P14 : List PT := [.us 1, (.r (.ro 1)), .us 2, pI, pI, .us 15, (.r (.ro 2)), pI, pI, .us 34]
noncomputable def ML16_7 {β : Type} (l16_7_0 : (List R → Int → Int → Int → Option β) → (List R → Int → Int → Option β) → List R → Int → Int → List R → Int → Int → Option β) (s : List T) : Option ((Ex → List T → Option β) → Option β) :=
  match gTs P14 (clean ((Hn 16).lp 7).1 s) [] with
  | some [.l x0, .i x1, .i x2, .l x3, .i x4, .i x5] => some fun kk => l16_7_0 (fun x6 x7 x8 x9 => kk Ex.rt (S12 x6 x7 x8 x9)) (fun xa xb xc => kk (Ex.ex 0) (S13 xa xb xc)) x0 x1 x2 x3 x4 x5
  | _ => none
theorem e16_7_0 {β : Type} (A : Pr) (B : Pk) (l16_7_0 : (List R → Int → Int → Int → Option β) → (List R → Int → Int → Option β) → List R → Int → Int → List R → Int → Int → Option β) (x0 : List R) (x1 x2 : Int) (x3 : List R) (x4 x5 : Int) (kk : Ex → List T → Option β) :
    uTs P14 [.l x0, .i x1, .i x2, .l x3, .i x4, .i x5] (fun s _ => evK (mkK Tryz.prog A B [] [] (Hn 16).pt []) X16_7 s (fun e s' => match e with
      | .nm => (match ML16_7 l16_7_0 s' with | some h => h kk | none => none)
      | .ex m => kk (.ex m) (clean ((Hn 16).lp (firstReg X16_7)).2 s')
      | .rt => kk .rt (clean ((Hn 16).lp (firstReg X16_7)).2 s'))) = GL16_7_0 A B l16_7_0 (fun x6 x7 x8 x9 => kk Ex.rt (S12 x6 x7 x8 x9)) (fun xa xb xc => kk (Ex.ex 0) (S13 xa xb xc)) x0 x1 x2 x3 x4 x5 := by kernel_rfl
theorem ol16_7 {β : Type} (N : Nat) : ∀ n, SndL (β := β) Tryz.prog Hn (Hn 16) X16_7 (ML16_7 (L16_7_0 re rk N n))
  | 0 => by
    intro s h kk r ha hr
    unfold ML16_7 at ha
    split at ha
    · cases ha; cases hr
    · cases ha
  | n + 1 => by
    have ih := ol16_7 (β := β) N n
    intro s h kk r ha hr
    unfold ML16_7 at ha
    split at ha
    · rename_i hs
      cases ha
      have hk := via_pat hs ((e16_7_0 re rk (L16_7_0 re rk N n) _ _ _ _ _ _ kk).trans hr)
      exact round_ok (show SndAll Tryz.prog Hn [] from trivial) (spots := []) (by kernel_rfl) trivial ih (hd := clean ((Hn 16).lp 7).1 s) (by rw [i16_7]) hk
    · cases ha
def G16_0 {β : Type} (A : Pr) (B : Pk) (f26_0 : List R → (Int → Option β) → Option β) (l16_7_0 : (List R → Int → Int → Int → Option β) → (List R → Int → Int → Option β) → List R → Int → Int → List R → Int → Int → Option β) (x0 x1 : List R) (k0 : Int → Int → Int → Option β) : Option β :=
    f26_0 x0 (fun x2 =>
    match (A.cm .neq x2 0) with
      | true => (k0 0 0 x2)
      | false => (match (A.cm .neq (A.on (A.len x1)) (A.on (A.len x0))) with
        | true => (k0 0 0 4)
        | false => (l16_7_0 (fun x3 x4 x5 x6 =>
          k0 x4 x5 x6) (fun x7 x8 x9 =>
          k0 x8 x9 0) x1 0 0 x0 (A.on (A.len x0)) 0)))
def F16_0 {β : Type} (A : Pr) (B : Pk) (N : Nat) (x0 x1 : List R) (k0 : Int → Int → Int → Option β) : Option β :=
  G16_0 A B (F26_0 A B N) (L16_7_0 A B N N) x0 x1 k0
def P15 : List PT := [(.r (.ro 2)), (.r (.ro 1))]
def M16_0 {β : Type} (f16_0 : List R → List R → (Int → Int → Int → Option β) → Option β) (a : List T) : Option ((T → List (List T) → Option β) → Option β) :=
  match gTs P15 a [] with
  | some [.l x0, .l x1] => some fun kk => f16_0 x0 x1 (fun x2 x3 x4 => kk (T.tp true [(tI x2), (tI x3), (tI x4)]) [])
  | _ => none
theorem e16_0 {β : Type} (A : Pr) (B : Pk) (f26_0 : List R → (Int → Option β) → Option β) (l16_7_0 : (List R → Int → Int → Int → Option β) → (List R → Int → Int → Option β) → List R → Int → Int → List R → Int → Int → Option β) (x0 x1 : List R) (kk : T → List (List T) → Option β) :
    uTs P15 [.l x0, .l x1] (fun a _ => bodyK (mkK Tryz.prog A B [(26, M26_0 f26_0)] [(7, ML16_7 l16_7_0)] (Hn 16).pt []) Tryz.f16 a kk) = G16_0 A B f26_0 l16_7_0 x0 x1 (fun x2 x3 x4 => kk (T.tp true [(tI x2), (tI x3), (tI x4)]) []) := by kernel_rfl
theorem o16_0 {β : Type} (N : Nat) : Snd (β := β) Tryz.prog Hn 16 (M16_0 (F16_0 re rk N)) := by
  intro a h kk r ha hr
  unfold M16_0 at ha
  split at ha
  · rename_i hs
    cases ha
    have hk := via_pat hs ((e16_0 re rk (F26_0 re rk N) (L16_7_0 re rk N N) _ _ kk).trans hr)
    exact fn_ok (f := 16) (fn := Tryz.f16) (H := Hn) (by kernel_rfl) (show SndAll Tryz.prog Hn [(26, M26_0 (F26_0 re rk N))] from ⟨o26_0 N, trivial⟩) (spots := [.lp X16_7]) (by kernel_rfl) ⟨cut_lp (id := 7) i16_7 (ol16_7 N N) (fun s kk => by kernel_rfl), trivial⟩ hk
  · cases ha
def G11_0 {β : Type} (A : Pr) (B : Pk) (f16_0 : List R → List R → (Int → Int → Int → Option β) → Option β) (x0 x1 x2 : List R) (k0 : Bool → Option β) : Option β :=
    f16_0 x0 x1 (fun x3 x4 x5 =>
    f16_0 x0 x2 (fun x6 x7 x8 =>
      match (A.cm .eql x5 0) with
        | true => (match (A.cm .eql x8 0) with
          | true => (match (A.cm .gtr x6 x3) with
            | true => (k0 true)
            | false => (k0 (A.cm .geq x7 x4)))
          | false => (k0 false))
        | false => (k0 false)))
def F11_0 {β : Type} (A : Pr) (B : Pk) (N : Nat) (x0 x1 x2 : List R) (k0 : Bool → Option β) : Option β :=
  G11_0 A B (F16_0 A B N) x0 x1 x2 k0
def M11_0 {β : Type} (f11_0 : List R → List R → List R → (Bool → Option β) → Option β) (a : List T) : Option ((T → List (List T) → Option β) → Option β) :=
  match gTs P3 a [] with
  | some [.l x0, .l x1, .l x2] => some fun kk => f11_0 x0 x1 x2 (fun x3 => kk (tB x3) [])
  | _ => none
theorem e11_0 {β : Type} (A : Pr) (B : Pk) (f16_0 : List R → List R → (Int → Int → Int → Option β) → Option β) (x0 x1 x2 : List R) (kk : T → List (List T) → Option β) :
    uTs P3 [.l x0, .l x1, .l x2] (fun a _ => bodyK (mkK Tryz.prog A B [(16, M16_0 f16_0)] [] (Hn 11).pt []) Tryz.f11 a kk) = G11_0 A B f16_0 x0 x1 x2 (fun x3 => kk (tB x3) []) := by kernel_rfl
theorem o11_0 {β : Type} (N : Nat) : Snd (β := β) Tryz.prog Hn 11 (M11_0 (F11_0 re rk N)) := by
  intro a h kk r ha hr
  unfold M11_0 at ha
  split at ha
  · rename_i hs
    cases ha
    have hk := via_pat hs ((e11_0 re rk (F16_0 re rk N) _ _ _ kk).trans hr)
    exact fn_ok (f := 11) (fn := Tryz.f11) (H := Hn) (by kernel_rfl) (show SndAll Tryz.prog Hn [(16, M16_0 (F16_0 re rk N))] from ⟨o16_0 N, trivial⟩) (spots := []) (by kernel_rfl) trivial hk
  · cases ha
noncomputable def X27_5 : Code := atF Tryz.f27 [true, true, true, false, true, false, false]
theorem i27_5 : firstReg X27_5 = 5 := by kernel_rfl
def GL27_5_0 {β : Type} (A : Pr) (B : Pk) (l27_5_0 : (Bool → Option β) → (Option β) → List R → List R → Int → Int → Option β) (k0 : Bool → Option β) (k1 : Option β) (x0 x1 : List R) (x2 x3 : Int) : Option β :=
    match (A.cm .lss x3 x2) with
    | true => (match (A.ix x3 (A.len x0)) with
      | some x4 => (match (B.okE [(Sh.i .i64)] false x0 x4) with
        | true => (match (A.cm .lss (B.ci x0 x4 0) 0) with
          | true => (k0 false)
          | false => (match (A.ix x3 (A.len x0)) with
            | some x5 => (match (B.okE [(Sh.i .i64)] false x0 x5) with
              | true => (match (A.cm .gtr (B.ci x0 x5 0) 65535) with
                | true => (k0 false)
                | false => (match (A.ix x3 (A.len x1)) with
                  | some x6 => (match (B.okE [(Sh.i .i64)] false x1 x6) with
                    | true => (match (A.cm .lss (B.ci x1 x6 0) 0) with
                      | true => (k0 false)
                      | false => (match (A.ix x3 (A.len x1)) with
                        | some x7 => (match (B.okE [(Sh.i .i64)] false x1 x7) with
                          | true => (match (A.cm .gtr (B.ci x1 x7 0) 70368744177664) with
                            | true => (k0 false)
                            | false => (match (A.cm .gtr x3 0) with
                              | true => (match (A.ix x3 (A.len x0)) with
                                | some x8 => (match (B.okE [(Sh.i .i64)] false x0 x8) with
                                  | true => (match (A.ix (A.ar .sub .i64 x3 1) (A.len x0)) with
                                    | some x9 => (match (B.okE [(Sh.i .i64)] false x0 x9) with
                                      | true => (match (A.cm .lss (B.ci x0 x8 0) (B.ci x0 x9 0)) with
                                        | true => (k0 false)
                                        | false => (l27_5_0 k0 k1 x0 x1 x2 (A.ar .add .i64 x3 1)))
                                      | false => none)
                                    | none => none)
                                  | false => none)
                                | none => none)
                              | false => (l27_5_0 k0 k1 x0 x1 x2 (A.ar .add .i64 x3 1))))
                          | false => none)
                        | none => none))
                    | false => none)
                  | none => none))
              | false => none)
            | none => none))
        | false => none)
      | none => none)
    | false => k1
def L27_5_0 {β : Type} (A : Pr) (B : Pk) (N : Nat) : Nat → (Bool → Option β) → (Option β) → List R → List R → Int → Int → Option β
  | 0, _, _, _, _, _, _ => none
  | n + 1, k0, k1, x0, x1, x2, x3 =>
    GL27_5_0 A B (L27_5_0 A B N n) k0 k1 x0 x1 x2 x3
def P16 : List PT := [.us 2, pB, .us 76]
def S16 (x0 : Bool) : List T := (T.u :: T.u :: (tB x0) :: T.u :: T.u :: T.u :: T.u :: T.u :: T.u :: T.u :: T.u :: T.u :: T.u :: T.u :: T.u :: T.u :: T.u :: T.u :: T.u :: T.u :: T.u :: T.u :: T.u :: T.u :: T.u :: T.u :: T.u :: T.u :: T.u :: T.u :: T.u :: T.u :: T.u :: T.u :: T.u :: T.u :: T.u :: T.u :: T.u :: T.u :: T.u :: T.u :: T.u :: T.u :: T.u :: T.u :: T.u :: T.u :: T.u :: T.u :: T.u :: T.u :: T.u :: T.u :: T.u :: T.u :: T.u :: T.u :: T.u :: T.u :: T.u :: T.u :: T.u :: T.u :: T.u :: T.u :: T.u :: T.u :: T.u :: T.u :: T.u :: T.u :: T.u :: T.u :: T.u :: T.u :: T.u :: T.u :: T.u :: [])
def P17 : List PT := [.us 79]
def S17  : List T := (T.u :: T.u :: T.u :: T.u :: T.u :: T.u :: T.u :: T.u :: T.u :: T.u :: T.u :: T.u :: T.u :: T.u :: T.u :: T.u :: T.u :: T.u :: T.u :: T.u :: T.u :: T.u :: T.u :: T.u :: T.u :: T.u :: T.u :: T.u :: T.u :: T.u :: T.u :: T.u :: T.u :: T.u :: T.u :: T.u :: T.u :: T.u :: T.u :: T.u :: T.u :: T.u :: T.u :: T.u :: T.u :: T.u :: T.u :: T.u :: T.u :: T.u :: T.u :: T.u :: T.u :: T.u :: T.u :: T.u :: T.u :: T.u :: T.u :: T.u :: T.u :: T.u :: T.u :: T.u :: T.u :: T.u :: T.u :: T.u :: T.u :: T.u :: T.u :: T.u :: T.u :: T.u :: T.u :: T.u :: T.u :: T.u :: T.u :: [])
def P18 : List PT := [.us 1, (.bx [(.r (.ro 1)), (.r (.ro 1))]), .us 1, pI, pI, .us 74]
noncomputable def ML27_5 {β : Type} (l27_5_0 : (Bool → Option β) → (Option β) → List R → List R → Int → Int → Option β) (s : List T) : Option ((Ex → List T → Option β) → Option β) :=
  match gTs P18 (clean ((Hn 27).lp 5).1 s) [] with
  | some [.l x0, .l x1, .i x2, .i x3] => some fun kk => l27_5_0 (fun x4 => kk Ex.rt (S16 x4)) (kk (Ex.ex 0) (S17)) x0 x1 x2 x3
  | _ => none
theorem e27_5_0 {β : Type} (A : Pr) (B : Pk) (l27_5_0 : (Bool → Option β) → (Option β) → List R → List R → Int → Int → Option β) (x0 x1 : List R) (x2 x3 : Int) (kk : Ex → List T → Option β) :
    uTs P18 [.l x0, .l x1, .i x2, .i x3] (fun s _ => evK (mkK Tryz.prog A B [] [] (Hn 27).pt []) X27_5 s (fun e s' => match e with
      | .nm => (match ML27_5 l27_5_0 s' with | some h => h kk | none => none)
      | .ex m => kk (.ex m) (clean ((Hn 27).lp (firstReg X27_5)).2 s')
      | .rt => kk .rt (clean ((Hn 27).lp (firstReg X27_5)).2 s'))) = GL27_5_0 A B l27_5_0 (fun x4 => kk Ex.rt (S16 x4)) (kk (Ex.ex 0) (S17)) x0 x1 x2 x3 := by kernel_rfl
theorem ol27_5 {β : Type} (N : Nat) : ∀ n, SndL (β := β) Tryz.prog Hn (Hn 27) X27_5 (ML27_5 (L27_5_0 re rk N n))
  | 0 => by
    intro s h kk r ha hr
    unfold ML27_5 at ha
    split at ha
    · cases ha; cases hr
    · cases ha
  | n + 1 => by
    have ih := ol27_5 (β := β) N n
    intro s h kk r ha hr
    unfold ML27_5 at ha
    split at ha
    · rename_i hs
      cases ha
      have hk := via_pat hs ((e27_5_0 re rk (L27_5_0 re rk N n) _ _ _ _ kk).trans hr)
      exact round_ok (show SndAll Tryz.prog Hn [] from trivial) (spots := []) (by kernel_rfl) trivial ih (hd := clean ((Hn 27).lp 5).1 s) (by rw [i27_5]) hk
    · cases ha
def G27_0 {β : Type} (A : Pr) (B : Pk) (l27_5_0 : (Bool → Option β) → (Option β) → List R → List R → Int → Int → Option β) (x0 x1 : List R) (k0 : Bool → Option β) : Option β :=
    match (A.cm .lss (A.on (A.len x0)) 1) with
    | true => (k0 false)
    | false => (match (A.cm .gtr (A.on (A.len x0)) 179) with
      | true => (k0 false)
      | false => (match (A.cm .neq (A.on (A.len x1)) (A.on (A.len x0))) with
        | true => (k0 false)
        | false => (match (A.ix 0 (A.len x0)) with
          | some x2 => (match (B.okE [(Sh.i .i64)] false x0 x2) with
            | true => (match (A.cm .neq (B.ci x0 x2 0) 0) with
              | true => (k0 false)
              | false => (l27_5_0 (fun x3 =>
                k0 x3) (k0 true) x0 x1 (A.on (A.len x0)) 0))
            | false => none)
          | none => none)))
def F27_0 {β : Type} (A : Pr) (B : Pk) (N : Nat) (x0 x1 : List R) (k0 : Bool → Option β) : Option β :=
  G27_0 A B (L27_5_0 A B N N) x0 x1 k0
def M27_0 {β : Type} (f27_0 : List R → List R → (Bool → Option β) → Option β) (a : List T) : Option ((T → List (List T) → Option β) → Option β) :=
  match gTs P7 a [] with
  | some [.l x0, .l x1] => some fun kk => f27_0 x0 x1 (fun x2 => kk (tB x2) [])
  | _ => none
theorem e27_0 {β : Type} (A : Pr) (B : Pk) (l27_5_0 : (Bool → Option β) → (Option β) → List R → List R → Int → Int → Option β) (x0 x1 : List R) (kk : T → List (List T) → Option β) :
    uTs P7 [.l x0, .l x1] (fun a _ => bodyK (mkK Tryz.prog A B [] [(5, ML27_5 l27_5_0)] (Hn 27).pt []) Tryz.f27 a kk) = G27_0 A B l27_5_0 x0 x1 (fun x2 => kk (tB x2) []) := by kernel_rfl
theorem o27_0 {β : Type} (N : Nat) : Snd (β := β) Tryz.prog Hn 27 (M27_0 (F27_0 re rk N)) := by
  intro a h kk r ha hr
  unfold M27_0 at ha
  split at ha
  · rename_i hs
    cases ha
    have hk := via_pat hs ((e27_0 re rk (L27_5_0 re rk N N) _ _ kk).trans hr)
    exact fn_ok (f := 27) (fn := Tryz.f27) (H := Hn) (by kernel_rfl) (show SndAll Tryz.prog Hn [] from trivial) (spots := [.lp X27_5]) (by kernel_rfl) ⟨cut_lp (id := 5) i27_5 (ol27_5 N N) (fun s kk => by kernel_rfl), trivial⟩ hk
  · cases ha
noncomputable def X17_4 : Code := atF Tryz.f17 [true, true, false, true, false, false]
theorem i17_4 : firstReg X17_4 = 4 := by kernel_rfl
def GL17_4_0 {β : Type} (A : Pr) (B : Pk) (f27_0 : List R → List R → (Bool → Option β) → Option β) (l17_4_0 : (Int → Option β) → (Option β) → List R → Int → Int → Option β) (k0 : Int → Option β) (k1 : Option β) (x0 : List R) (x1 x2 : Int) : Option β :=
    match (A.cm .lss x2 x1) with
    | true => (match (A.ix x2 (A.len x0)) with
      | some x3 => (match (B.okE [(Sh.sl 1 (Sh.i .i64)), (Sh.sl 1 (Sh.i .i64))] true x0 x3) with
        | true => (f27_0 (B.cl x0 x3 0) (B.cl x0 x3 1) (fun x4 =>
          match (A.bn x4) with
            | true => (k0 1)
            | false => (l17_4_0 k0 k1 x0 x1 (A.ar .add .i64 x2 1))))
        | false => none)
      | none => none)
    | false => k1
def L17_4_0 {β : Type} (A : Pr) (B : Pk) (N : Nat) : Nat → (Int → Option β) → (Option β) → List R → Int → Int → Option β
  | 0, _, _, _, _, _ => none
  | n + 1, k0, k1, x0, x1, x2 =>
    GL17_4_0 A B (F27_0 A B N) (L17_4_0 A B N n) k0 k1 x0 x1 x2
noncomputable def ML17_4 {β : Type} (l17_4_0 : (Int → Option β) → (Option β) → List R → Int → Int → Option β) (s : List T) : Option ((Ex → List T → Option β) → Option β) :=
  match gTs P10 (clean ((Hn 17).lp 4).1 s) [] with
  | some [.l x0, .i x1, .i x2] => some fun kk => l17_4_0 (fun x3 => kk Ex.rt (S8 x3)) (kk (Ex.ex 0) (S9)) x0 x1 x2
  | _ => none
theorem e17_4_0 {β : Type} (A : Pr) (B : Pk) (f27_0 : List R → List R → (Bool → Option β) → Option β) (l17_4_0 : (Int → Option β) → (Option β) → List R → Int → Int → Option β) (x0 : List R) (x1 x2 : Int) (kk : Ex → List T → Option β) :
    uTs P10 [.l x0, .i x1, .i x2] (fun s _ => evK (mkK Tryz.prog A B [(27, M27_0 f27_0)] [] (Hn 17).pt []) X17_4 s (fun e s' => match e with
      | .nm => (match ML17_4 l17_4_0 s' with | some h => h kk | none => none)
      | .ex m => kk (.ex m) (clean ((Hn 17).lp (firstReg X17_4)).2 s')
      | .rt => kk .rt (clean ((Hn 17).lp (firstReg X17_4)).2 s'))) = GL17_4_0 A B f27_0 l17_4_0 (fun x3 => kk Ex.rt (S8 x3)) (kk (Ex.ex 0) (S9)) x0 x1 x2 := by kernel_rfl
theorem ol17_4 {β : Type} (N : Nat) : ∀ n, SndL (β := β) Tryz.prog Hn (Hn 17) X17_4 (ML17_4 (L17_4_0 re rk N n))
  | 0 => by
    intro s h kk r ha hr
    unfold ML17_4 at ha
    split at ha
    · cases ha; cases hr
    · cases ha
  | n + 1 => by
    have ih := ol17_4 (β := β) N n
    intro s h kk r ha hr
    unfold ML17_4 at ha
    split at ha
    · rename_i hs
      cases ha
      have hk := via_pat hs ((e17_4_0 re rk (F27_0 re rk N) (L17_4_0 re rk N n) _ _ _ kk).trans hr)
      exact round_ok (show SndAll Tryz.prog Hn [(27, M27_0 (F27_0 re rk N))] from ⟨o27_0 N, trivial⟩) (spots := []) (by kernel_rfl) trivial ih (hd := clean ((Hn 17).lp 4).1 s) (by rw [i17_4]) hk
    · cases ha
def G17_0 {β : Type} (A : Pr) (B : Pk) (l17_4_0 : (Int → Option β) → (Option β) → List R → Int → Int → Option β) (x0 : List R) (k0 : Int → Option β) : Option β :=
    match (A.cm .gtr (A.on (A.len x0)) 65536) with
    | true => (k0 5)
    | false => (l17_4_0 (fun x1 =>
      k0 x1) (k0 0) x0 (A.on (A.len x0)) 0)
def F17_0 {β : Type} (A : Pr) (B : Pk) (N : Nat) (x0 : List R) (k0 : Int → Option β) : Option β :=
  G17_0 A B (L17_4_0 A B N N) x0 k0
def M17_0 {β : Type} (f17_0 : List R → (Int → Option β) → Option β) (a : List T) : Option ((T → List (List T) → Option β) → Option β) :=
  match gTs P11 a [] with
  | some [.l x0] => some fun kk => f17_0 x0 (fun x1 => kk (tI x1) [])
  | _ => none
theorem e17_0 {β : Type} (A : Pr) (B : Pk) (l17_4_0 : (Int → Option β) → (Option β) → List R → Int → Int → Option β) (x0 : List R) (kk : T → List (List T) → Option β) :
    uTs P11 [.l x0] (fun a _ => bodyK (mkK Tryz.prog A B [] [(4, ML17_4 l17_4_0)] (Hn 17).pt []) Tryz.f17 a kk) = G17_0 A B l17_4_0 x0 (fun x1 => kk (tI x1) []) := by kernel_rfl
theorem o17_0 {β : Type} (N : Nat) : Snd (β := β) Tryz.prog Hn 17 (M17_0 (F17_0 re rk N)) := by
  intro a h kk r ha hr
  unfold M17_0 at ha
  split at ha
  · rename_i hs
    cases ha
    have hk := via_pat hs ((e17_0 re rk (L17_4_0 re rk N N) _ kk).trans hr)
    exact fn_ok (f := 17) (fn := Tryz.f17) (H := Hn) (by kernel_rfl) (show SndAll Tryz.prog Hn [] from trivial) (spots := [.lp X17_4]) (by kernel_rfl) ⟨cut_lp (id := 4) i17_4 (ol17_4 N N) (fun s kk => by kernel_rfl), trivial⟩ hk
  · cases ha
noncomputable def X14_7 : Code := atF Tryz.f14 [true, true, true, false, true, false, false]
theorem i14_7 : firstReg X14_7 = 7 := by kernel_rfl
def GL14_7_0 {β : Type} (A : Pr) (B : Pk) (l14_7_0 : (List R → Int → Int → Int → Option β) → (List R → Int → Int → Option β) → List R → Int → Int → List R → Int → Int → Option β) (k0 : List R → Int → Int → Int → Option β) (k1 : List R → Int → Int → Option β) (x0 : List R) (x1 x2 : Int) (x3 : List R) (x4 x5 : Int) : Option β :=
    match (A.cm .lss x5 x4) with
    | true => (match (A.ix x5 (A.len x3)) with
      | some x6 => (match (B.okE [(Sh.sl 1 (Sh.i .i64)), (Sh.sl 1 (Sh.i .i64))] true x3 x6) with
        | true => (match (A.ix x5 (A.len x0)) with
          | some x7 => (match (B.okE [(Sh.i .i64)] false x0 x7) with
            | true => (match (A.cm .lss (B.ci x0 x7 0) 0) with
              | true => (k0 x0 0 0 2)
              | false => (match (A.ix x5 (A.len x0)) with
                | some x8 => (match (B.okE [(Sh.i .i64)] false x0 x8) with
                  | true => (match (A.cm .geq (B.ci x0 x8 0) (A.on (A.len (B.cl x3 x6 0)))) with
                    | true => (k0 x0 0 0 2)
                    | false => (match (A.ix x5 (A.len x0)) with
                      | some x9 => (match (B.okE [(Sh.i .i64)] false x0 x9) with
                        | true => (match (A.ix (B.ci x0 x9 0) (A.len (B.cl x3 x6 0))) with
                          | some xa => (match (B.okE [(Sh.i .i64)] false (B.cl x3 x6 0) xa) with
                            | true => (match (A.ix x5 (A.len x0)) with
                              | some xb => (match (B.okE [(Sh.i .i64)] false x0 xb) with
                                | true => (match (A.ix (B.ci x0 xb 0) (A.len (B.cl x3 x6 1))) with
                                  | some xc => (match (B.okE [(Sh.i .i64)] false (B.cl x3 x6 1) xc) with
                                    | true => (l14_7_0 k0 k1 x0 (A.ar .add .i64 x1 (B.ci (B.cl x3 x6 0) xa 0)) (A.ar .add .i64 x2 (B.ci (B.cl x3 x6 1) xc 0)) x3 x4 (A.ar .add .i64 x5 1))
                                    | false => none)
                                  | none => none)
                                | false => none)
                              | none => none)
                            | false => none)
                          | none => none)
                        | false => none)
                      | none => none))
                  | false => none)
                | none => none))
            | false => none)
          | none => none)
        | false => none)
      | none => none)
    | false => (k1 x0 x1 x2)
def L14_7_0 {β : Type} (A : Pr) (B : Pk) (N : Nat) : Nat → (List R → Int → Int → Int → Option β) → (List R → Int → Int → Option β) → List R → Int → Int → List R → Int → Int → Option β
  | 0, _, _, _, _, _, _, _, _ => none
  | n + 1, k0, k1, x0, x1, x2, x3, x4, x5 =>
    GL14_7_0 A B (L14_7_0 A B N n) k0 k1 x0 x1 x2 x3 x4 x5
def P19 : List PT := [.us 1, (.r (.ro 1)), .us 2, pI, pI, pI, .us 58]
def S19 (x0 : List R) (x1 x2 x3 : Int) : List T := (T.u :: (T.r (R.ro 1 x0)) :: T.u :: T.u :: (tI x1) :: (tI x2) :: (tI x3) :: T.u :: T.u :: T.u :: T.u :: T.u :: T.u :: T.u :: T.u :: T.u :: T.u :: T.u :: T.u :: T.u :: T.u :: T.u :: T.u :: T.u :: T.u :: T.u :: T.u :: T.u :: T.u :: T.u :: T.u :: T.u :: T.u :: T.u :: T.u :: T.u :: T.u :: T.u :: T.u :: T.u :: T.u :: T.u :: T.u :: T.u :: T.u :: T.u :: T.u :: T.u :: T.u :: T.u :: T.u :: T.u :: T.u :: T.u :: T.u :: T.u :: T.u :: T.u :: T.u :: T.u :: T.u :: T.u :: T.u :: T.u :: T.u :: [])
def P20 : List PT := [.us 1, (.r (.ro 1)), .us 2, pI, pI, .us 59]
def S20 (x0 : List R) (x1 x2 : Int) : List T := (T.u :: (T.r (R.ro 1 x0)) :: T.u :: T.u :: (tI x1) :: (tI x2) :: T.u :: T.u :: T.u :: T.u :: T.u :: T.u :: T.u :: T.u :: T.u :: T.u :: T.u :: T.u :: T.u :: T.u :: T.u :: T.u :: T.u :: T.u :: T.u :: T.u :: T.u :: T.u :: T.u :: T.u :: T.u :: T.u :: T.u :: T.u :: T.u :: T.u :: T.u :: T.u :: T.u :: T.u :: T.u :: T.u :: T.u :: T.u :: T.u :: T.u :: T.u :: T.u :: T.u :: T.u :: T.u :: T.u :: T.u :: T.u :: T.u :: T.u :: T.u :: T.u :: T.u :: T.u :: T.u :: T.u :: T.u :: T.u :: T.u :: [])
def P21 : List PT := [.us 1, (.r (.ro 1)), .us 2, pI, pI, .us 14, (.r (.ro 2)), pI, pI, .us 42]
noncomputable def ML14_7 {β : Type} (l14_7_0 : (List R → Int → Int → Int → Option β) → (List R → Int → Int → Option β) → List R → Int → Int → List R → Int → Int → Option β) (s : List T) : Option ((Ex → List T → Option β) → Option β) :=
  match gTs P21 (clean ((Hn 14).lp 7).1 s) [] with
  | some [.l x0, .i x1, .i x2, .l x3, .i x4, .i x5] => some fun kk => l14_7_0 (fun x6 x7 x8 x9 => kk Ex.rt (S19 x6 x7 x8 x9)) (fun xa xb xc => kk (Ex.ex 0) (S20 xa xb xc)) x0 x1 x2 x3 x4 x5
  | _ => none
theorem e14_7_0 {β : Type} (A : Pr) (B : Pk) (l14_7_0 : (List R → Int → Int → Int → Option β) → (List R → Int → Int → Option β) → List R → Int → Int → List R → Int → Int → Option β) (x0 : List R) (x1 x2 : Int) (x3 : List R) (x4 x5 : Int) (kk : Ex → List T → Option β) :
    uTs P21 [.l x0, .i x1, .i x2, .l x3, .i x4, .i x5] (fun s _ => evK (mkK Tryz.prog A B [] [] (Hn 14).pt []) X14_7 s (fun e s' => match e with
      | .nm => (match ML14_7 l14_7_0 s' with | some h => h kk | none => none)
      | .ex m => kk (.ex m) (clean ((Hn 14).lp (firstReg X14_7)).2 s')
      | .rt => kk .rt (clean ((Hn 14).lp (firstReg X14_7)).2 s'))) = GL14_7_0 A B l14_7_0 (fun x6 x7 x8 x9 => kk Ex.rt (S19 x6 x7 x8 x9)) (fun xa xb xc => kk (Ex.ex 0) (S20 xa xb xc)) x0 x1 x2 x3 x4 x5 := by kernel_rfl
theorem ol14_7 {β : Type} (N : Nat) : ∀ n, SndL (β := β) Tryz.prog Hn (Hn 14) X14_7 (ML14_7 (L14_7_0 re rk N n))
  | 0 => by
    intro s h kk r ha hr
    unfold ML14_7 at ha
    split at ha
    · cases ha; cases hr
    · cases ha
  | n + 1 => by
    have ih := ol14_7 (β := β) N n
    intro s h kk r ha hr
    unfold ML14_7 at ha
    split at ha
    · rename_i hs
      cases ha
      have hk := via_pat hs ((e14_7_0 re rk (L14_7_0 re rk N n) _ _ _ _ _ _ kk).trans hr)
      exact round_ok (show SndAll Tryz.prog Hn [] from trivial) (spots := []) (by kernel_rfl) trivial ih (hd := clean ((Hn 14).lp 7).1 s) (by rw [i14_7]) hk
    · cases ha
def G14_0 {β : Type} (A : Pr) (B : Pk) (f17_0 : List R → (Int → Option β) → Option β) (l14_7_0 : (List R → Int → Int → Int → Option β) → (List R → Int → Int → Option β) → List R → Int → Int → List R → Int → Int → Option β) (x0 x1 : List R) (k0 : Int → Int → Int → Option β) : Option β :=
    f17_0 x0 (fun x2 =>
    match (A.cm .neq x2 0) with
      | true => (k0 0 0 x2)
      | false => (match (A.cm .neq (A.on (A.len x1)) (A.on (A.len x0))) with
        | true => (k0 0 0 4)
        | false => (l14_7_0 (fun x3 x4 x5 x6 =>
          k0 x4 x5 x6) (fun x7 x8 x9 =>
          k0 x8 x9 0) x1 0 0 x0 (A.on (A.len x0)) 0)))
def F14_0 {β : Type} (A : Pr) (B : Pk) (N : Nat) (x0 x1 : List R) (k0 : Int → Int → Int → Option β) : Option β :=
  G14_0 A B (F17_0 A B N) (L14_7_0 A B N N) x0 x1 k0
def M14_0 {β : Type} (f14_0 : List R → List R → (Int → Int → Int → Option β) → Option β) (a : List T) : Option ((T → List (List T) → Option β) → Option β) :=
  match gTs P15 a [] with
  | some [.l x0, .l x1] => some fun kk => f14_0 x0 x1 (fun x2 x3 x4 => kk (T.tp true [(tI x2), (tI x3), (tI x4)]) [])
  | _ => none
theorem e14_0 {β : Type} (A : Pr) (B : Pk) (f17_0 : List R → (Int → Option β) → Option β) (l14_7_0 : (List R → Int → Int → Int → Option β) → (List R → Int → Int → Option β) → List R → Int → Int → List R → Int → Int → Option β) (x0 x1 : List R) (kk : T → List (List T) → Option β) :
    uTs P15 [.l x0, .l x1] (fun a _ => bodyK (mkK Tryz.prog A B [(17, M17_0 f17_0)] [(7, ML14_7 l14_7_0)] (Hn 14).pt []) Tryz.f14 a kk) = G14_0 A B f17_0 l14_7_0 x0 x1 (fun x2 x3 x4 => kk (T.tp true [(tI x2), (tI x3), (tI x4)]) []) := by kernel_rfl
theorem o14_0 {β : Type} (N : Nat) : Snd (β := β) Tryz.prog Hn 14 (M14_0 (F14_0 re rk N)) := by
  intro a h kk r ha hr
  unfold M14_0 at ha
  split at ha
  · rename_i hs
    cases ha
    have hk := via_pat hs ((e14_0 re rk (F17_0 re rk N) (L14_7_0 re rk N N) _ _ kk).trans hr)
    exact fn_ok (f := 14) (fn := Tryz.f14) (H := Hn) (by kernel_rfl) (show SndAll Tryz.prog Hn [(17, M17_0 (F17_0 re rk N))] from ⟨o17_0 N, trivial⟩) (spots := [.lp X14_7]) (by kernel_rfl) ⟨cut_lp (id := 7) i14_7 (ol14_7 N N) (fun s kk => by kernel_rfl), trivial⟩ hk
  · cases ha
def G12_0 {β : Type} (A : Pr) (B : Pk) (f14_0 : List R → List R → (Int → Int → Int → Option β) → Option β) (x0 x1 x2 : List R) (k0 : Bool → Option β) : Option β :=
    f14_0 x0 x1 (fun x3 x4 x5 =>
    match (A.cm .neq x5 0) with
      | true => (k0 false)
      | false => (f14_0 x0 x2 (fun x6 x7 x8 =>
        match (A.cm .neq x8 0) with
          | true => (k0 false)
          | false => (match (A.cm .gtr x6 x3) with
            | true => (k0 true)
            | false => (k0 (A.cm .geq x7 x4))))))
def F12_0 {β : Type} (A : Pr) (B : Pk) (N : Nat) (x0 x1 x2 : List R) (k0 : Bool → Option β) : Option β :=
  G12_0 A B (F14_0 A B N) x0 x1 x2 k0
def M12_0 {β : Type} (f12_0 : List R → List R → List R → (Bool → Option β) → Option β) (a : List T) : Option ((T → List (List T) → Option β) → Option β) :=
  match gTs P3 a [] with
  | some [.l x0, .l x1, .l x2] => some fun kk => f12_0 x0 x1 x2 (fun x3 => kk (tB x3) [])
  | _ => none
theorem e12_0 {β : Type} (A : Pr) (B : Pk) (f14_0 : List R → List R → (Int → Int → Int → Option β) → Option β) (x0 x1 x2 : List R) (kk : T → List (List T) → Option β) :
    uTs P3 [.l x0, .l x1, .l x2] (fun a _ => bodyK (mkK Tryz.prog A B [(14, M14_0 f14_0)] [] (Hn 12).pt []) Tryz.f12 a kk) = G12_0 A B f14_0 x0 x1 x2 (fun x3 => kk (tB x3) []) := by kernel_rfl
theorem o12_0 {β : Type} (N : Nat) : Snd (β := β) Tryz.prog Hn 12 (M12_0 (F12_0 re rk N)) := by
  intro a h kk r ha hr
  unfold M12_0 at ha
  split at ha
  · rename_i hs
    cases ha
    have hk := via_pat hs ((e12_0 re rk (F14_0 re rk N) _ _ _ kk).trans hr)
    exact fn_ok (f := 12) (fn := Tryz.f12) (H := Hn) (by kernel_rfl) (show SndAll Tryz.prog Hn [(14, M14_0 (F14_0 re rk N))] from ⟨o14_0 N, trivial⟩) (spots := []) (by kernel_rfl) trivial hk
  · cases ha
def G4_0 {β : Type} (A : Pr) (B : Pk) (f10_0 : List R → List R → List R → (Bool → Option β) → Option β) (f11_0 : List R → List R → List R → (Bool → Option β) → Option β) (f12_0 : List R → List R → List R → (Bool → Option β) → Option β) (x0 x1 x2 : List R) (k0 : Bool → Option β) : Option β :=
    f10_0 x0 x1 x2 (fun x3 =>
    match (A.bn x3) with
      | true => (k0 true)
      | false => (f11_0 x0 x1 x2 (fun x4 =>
        f12_0 x0 x1 x2 (fun x5 =>
          match (A.be x4 x5) with
            | true => (k0 true)
            | false => (k0 false)))))
def F4_0 {β : Type} (A : Pr) (B : Pk) (N : Nat) (x0 x1 x2 : List R) (k0 : Bool → Option β) : Option β :=
  G4_0 A B (F10_0 A B N) (F11_0 A B N) (F12_0 A B N) x0 x1 x2 k0
def M4_0 {β : Type} (f4_0 : List R → List R → List R → (Bool → Option β) → Option β) (a : List T) : Option ((T → List (List T) → Option β) → Option β) :=
  match gTs P3 a [] with
  | some [.l x0, .l x1, .l x2] => some fun kk => f4_0 x0 x1 x2 (fun x3 => kk (tB x3) [])
  | _ => none
theorem e4_0 {β : Type} (A : Pr) (B : Pk) (f10_0 : List R → List R → List R → (Bool → Option β) → Option β) (f11_0 : List R → List R → List R → (Bool → Option β) → Option β) (f12_0 : List R → List R → List R → (Bool → Option β) → Option β) (x0 x1 x2 : List R) (kk : T → List (List T) → Option β) :
    uTs P3 [.l x0, .l x1, .l x2] (fun a _ => bodyK (mkK Tryz.prog A B [(10, M10_0 f10_0), (9, M9_0), (11, M11_0 f11_0), (12, M12_0 f12_0)] [] (Hn 4).pt []) Tryz.f4 a kk) = G4_0 A B f10_0 f11_0 f12_0 x0 x1 x2 (fun x3 => kk (tB x3) []) := by kernel_rfl
theorem o4_0 {β : Type} (N : Nat) : Snd (β := β) Tryz.prog Hn 4 (M4_0 (F4_0 re rk N)) := by
  intro a h kk r ha hr
  unfold M4_0 at ha
  split at ha
  · rename_i hs
    cases ha
    have hk := via_pat hs ((e4_0 re rk (F10_0 re rk N) (F11_0 re rk N) (F12_0 re rk N) _ _ _ kk).trans hr)
    exact fn_ok (f := 4) (fn := Tryz.f4) (H := Hn) (by kernel_rfl) (show SndAll Tryz.prog Hn [(10, M10_0 (F10_0 re rk N)), (9, M9_0), (11, M11_0 (F11_0 re rk N)), (12, M12_0 (F12_0 re rk N))] from ⟨o10_0 N, o9_0 N, o11_0 N, o12_0 N, trivial⟩) (spots := []) (by kernel_rfl) trivial hk
  · cases ha
def G10_1 {β : Type} (A : Pr) (B : Pk) (l10_4_0 : (Bool → Option β) → (Option β) → List R → Int → Int → Option β) (x0 x1 : List R) (k0 : Bool → Option β) : Option β :=
    match (A.cm .gtr (A.on (A.len x0)) 40) with
    | true => (k0 false)
    | false => (match (A.cm .gtr (A.on 0) 50) with
      | true => (k0 false)
      | false => (match (A.cm .gtr (A.on (A.len x1)) 50) with
        | true => (k0 false)
        | false => (l10_4_0 (fun x2 =>
          k0 x2) (k0 true) x0 (A.on (A.len x0)) 0)))
def F10_1 {β : Type} (A : Pr) (B : Pk) (N : Nat) (x0 x1 : List R) (k0 : Bool → Option β) : Option β :=
  G10_1 A B (L10_4_0 A B N N) x0 x1 k0
def P22 : List PT := [(.r (.ro 2)), (.r .sn), (.r (.ro 1))]
def M10_1 {β : Type} (f10_1 : List R → List R → (Bool → Option β) → Option β) (a : List T) : Option ((T → List (List T) → Option β) → Option β) :=
  match gTs P22 a [] with
  | some [.l x0, .l x1] => some fun kk => f10_1 x0 x1 (fun x2 => kk (tB x2) [])
  | _ => none
theorem e10_1 {β : Type} (A : Pr) (B : Pk) (l10_4_0 : (Bool → Option β) → (Option β) → List R → Int → Int → Option β) (x0 x1 : List R) (kk : T → List (List T) → Option β) :
    uTs P22 [.l x0, .l x1] (fun a _ => bodyK (mkK Tryz.prog A B [] [(4, ML10_4 l10_4_0)] (Hn 10).pt []) Tryz.f10 a kk) = G10_1 A B l10_4_0 x0 x1 (fun x2 => kk (tB x2) []) := by kernel_rfl
theorem o10_1 {β : Type} (N : Nat) : Snd (β := β) Tryz.prog Hn 10 (M10_1 (F10_1 re rk N)) := by
  intro a h kk r ha hr
  unfold M10_1 at ha
  split at ha
  · rename_i hs
    cases ha
    have hk := via_pat hs ((e10_1 re rk (L10_4_0 re rk N N) _ _ kk).trans hr)
    exact fn_ok (f := 10) (fn := Tryz.f10) (H := Hn) (by kernel_rfl) (show SndAll Tryz.prog Hn [] from trivial) (spots := [.lp X10_4]) (by kernel_rfl) ⟨cut_lp (id := 4) i10_4 (ol10_4 N N) (fun s kk => by kernel_rfl), trivial⟩ hk
  · cases ha
noncomputable def X13_9 : Code := atF Tryz.f13 [true, true, true, true, false, true, false, false, true, false, false]
theorem i13_9 : firstReg X13_9 = 9 := by kernel_rfl
def GL13_9_0 {β : Type} (A : Pr) (B : Pk) (l13_9_0 : (List R → Option β) → List R → List R → Int → Int → Option β) (k0 : List R → Option β) (x0 x1 : List R) (x2 x3 : Int) : Option β :=
    match (A.cm .lss x3 x2) with
    | true => (match (A.ix x3 (A.len x1)) with
      | some x4 => (match (B.okE [(Sh.sl 1 (Sh.i .i64)), (Sh.sl 1 (Sh.i .i64))] true x1 x4) with
        | true => (match (A.ix x3 (A.len x0)) with
          | some x5 => (match (B.okC [(Sh.i .i64)] x0 x5 0) with
            | true => (l13_9_0 k0 (B.upd x0 x5 0 (R.i .i64 (A.ar .sub .i64 (A.on (A.len (B.cl x1 x4 0))) 1))) x1 x2 (A.ar .add .i64 x3 1))
            | false => none)
          | none => none)
        | false => none)
      | none => none)
    | false => (k0 x0)
def L13_9_0 {β : Type} (A : Pr) (B : Pk) (N : Nat) : Nat → (List R → Option β) → List R → List R → Int → Int → Option β
  | 0, _, _, _, _, _ => none
  | n + 1, k0, x0, x1, x2, x3 =>
    GL13_9_0 A B (L13_9_0 A B N n) k0 x0 x1 x2 x3
def P23 : List PT := [.us 7, (.own true 1), .us 58]
def S23 (x0 : List R) : List T := (T.u :: T.u :: T.u :: T.u :: T.u :: T.u :: T.u :: (T.own true 1 x0) :: T.u :: T.u :: T.u :: T.u :: T.u :: T.u :: T.u :: T.u :: T.u :: T.u :: T.u :: T.u :: T.u :: T.u :: T.u :: T.u :: T.u :: T.u :: T.u :: T.u :: T.u :: T.u :: T.u :: T.u :: T.u :: T.u :: T.u :: T.u :: T.u :: T.u :: T.u :: T.u :: T.u :: T.u :: T.u :: T.u :: T.u :: T.u :: T.u :: T.u :: T.u :: T.u :: T.u :: T.u :: T.u :: T.u :: T.u :: T.u :: T.u :: T.u :: T.u :: T.u :: T.u :: T.u :: T.u :: T.u :: T.u :: T.u :: [])
def P24 : List PT := [.us 7, (.own true 1), .us 17, (.r (.ro 2)), pI, pI, .us 38]
noncomputable def ML13_9 {β : Type} (l13_9_0 : (List R → Option β) → List R → List R → Int → Int → Option β) (s : List T) : Option ((Ex → List T → Option β) → Option β) :=
  match gTs P24 (clean ((Hn 13).lp 9).1 s) [] with
  | some [.l x0, .l x1, .i x2, .i x3] => some fun kk => l13_9_0 (fun x4 => kk (Ex.ex 0) (S23 x4)) x0 x1 x2 x3
  | _ => none
theorem e13_9_0 {β : Type} (A : Pr) (B : Pk) (l13_9_0 : (List R → Option β) → List R → List R → Int → Int → Option β) (x0 x1 : List R) (x2 x3 : Int) (kk : Ex → List T → Option β) :
    uTs P24 [.l x0, .l x1, .i x2, .i x3] (fun s _ => evK (mkK Tryz.prog A B [] [] (Hn 13).pt []) X13_9 s (fun e s' => match e with
      | .nm => (match ML13_9 l13_9_0 s' with | some h => h kk | none => none)
      | .ex m => kk (.ex m) (clean ((Hn 13).lp (firstReg X13_9)).2 s')
      | .rt => kk .rt (clean ((Hn 13).lp (firstReg X13_9)).2 s'))) = GL13_9_0 A B l13_9_0 (fun x4 => kk (Ex.ex 0) (S23 x4)) x0 x1 x2 x3 := by kernel_rfl
theorem ol13_9 {β : Type} (N : Nat) : ∀ n, SndL (β := β) Tryz.prog Hn (Hn 13) X13_9 (ML13_9 (L13_9_0 re rk N n))
  | 0 => by
    intro s h kk r ha hr
    unfold ML13_9 at ha
    split at ha
    · cases ha; cases hr
    · cases ha
  | n + 1 => by
    have ih := ol13_9 (β := β) N n
    intro s h kk r ha hr
    unfold ML13_9 at ha
    split at ha
    · rename_i hs
      cases ha
      have hk := via_pat hs ((e13_9_0 re rk (L13_9_0 re rk N n) _ _ _ _ kk).trans hr)
      exact round_ok (show SndAll Tryz.prog Hn [] from trivial) (spots := []) (by kernel_rfl) trivial ih (hd := clean ((Hn 13).lp 9).1 s) (by rw [i13_9]) hk
    · cases ha
def G45_0 {β : Type} (A : Pr) (B : Pk) (x0 x1 : Int) (k0 : Bool → Option β) : Option β :=
    match (A.cm .leq 0 x0) with
    | true => (match (A.cm .leq x0 70368744177664) with
      | true => (match (A.cm .leq 0 x1) with
        | true => (k0 (A.cm .leq x1 65535))
        | false => (k0 false))
      | false => (k0 false))
    | false => (k0 false)
def F45_0 {β : Type} (A : Pr) (B : Pk) (N : Nat) (x0 x1 : Int) (k0 : Bool → Option β) : Option β :=
  G45_0 A B  x0 x1 k0
def P25 : List PT := [pI, pI]
def M45_0 {β : Type} (f45_0 : Int → Int → (Bool → Option β) → Option β) (a : List T) : Option ((T → List (List T) → Option β) → Option β) :=
  match gTs P25 a [] with
  | some [.i x0, .i x1] => some fun kk => f45_0 x0 x1 (fun x2 => kk (tB x2) [])
  | _ => none
theorem e45_0 {β : Type} (A : Pr) (B : Pk) (x0 x1 : Int) (kk : T → List (List T) → Option β) :
    uTs P25 [.i x0, .i x1] (fun a _ => bodyK (mkK Tryz.prog A B [] [] (Hn 45).pt []) Tryz.f45 a kk) = G45_0 A B  x0 x1 (fun x2 => kk (tB x2) []) := by kernel_rfl
theorem o45_0 {β : Type} (N : Nat) : Snd (β := β) Tryz.prog Hn 45 (M45_0 (F45_0 re rk N)) := by
  intro a h kk r ha hr
  unfold M45_0 at ha
  split at ha
  · rename_i hs
    cases ha
    have hk := via_pat hs ((e45_0 re rk  _ _ kk).trans hr)
    exact fn_ok (f := 45) (fn := Tryz.f45) (H := Hn) (by kernel_rfl) (show SndAll Tryz.prog Hn [] from trivial) (spots := []) (by kernel_rfl) trivial hk
  · cases ha
def G29_0 {β : Type} (A : Pr) (B : Pk) (f45_0 : Int → Int → (Bool → Option β) → Option β) (x0 x1 x2 x3 : Int) (k0 : Int → Option β) : Option β :=
    f45_0 x0 x1 (fun x4 =>
    match (A.bn x4) with
      | true => (k0 0)
      | false => (f45_0 x2 x3 (fun x5 =>
        match (A.bn x5) with
          | true => (k0 0)
          | false => (match (A.cm .eql x1 0) with
            | true => (match (A.cm .eql x3 0) with
              | true => (match (A.cm .gtr x0 0) with
                | true => (match (A.cm .gtr x2 0) with
                  | true => (k0 0)
                  | false => (match (A.cm .gtr x0 0) with
                    | true => (k0 1)
                    | false => (match (A.cm .gtr x2 0) with
                      | true => (k0 (-1))
                      | false => (match (A.cm .gtr (A.ar .mul .i64 x0 (A.mx x3 1)) (A.ar .mul .i64 x2 (A.mx x1 1))) with
                        | true => (k0 1)
                        | false => (match (A.cm .lss (A.ar .mul .i64 x0 (A.mx x3 1)) (A.ar .mul .i64 x2 (A.mx x1 1))) with
                          | true => (k0 (-1))
                          | false => (k0 0))))))
                | false => (match (A.cm .gtr x0 0) with
                  | true => (k0 1)
                  | false => (match (A.cm .gtr x2 0) with
                    | true => (k0 (-1))
                    | false => (match (A.cm .gtr (A.ar .mul .i64 x0 (A.mx x3 1)) (A.ar .mul .i64 x2 (A.mx x1 1))) with
                      | true => (k0 1)
                      | false => (match (A.cm .lss (A.ar .mul .i64 x0 (A.mx x3 1)) (A.ar .mul .i64 x2 (A.mx x1 1))) with
                        | true => (k0 (-1))
                        | false => (k0 0))))))
              | false => (match (A.cm .gtr x0 0) with
                | true => (match (A.cm .gtr x0 0) with
                  | true => (k0 1)
                  | false => (match (A.cm .gtr (A.ar .mul .i64 x0 (A.mx x3 1)) (A.ar .mul .i64 x2 (A.mx x1 1))) with
                    | true => (k0 1)
                    | false => (match (A.cm .lss (A.ar .mul .i64 x0 (A.mx x3 1)) (A.ar .mul .i64 x2 (A.mx x1 1))) with
                      | true => (k0 (-1))
                      | false => (k0 0))))
                | false => (match (A.cm .gtr x0 0) with
                  | true => (k0 1)
                  | false => (match (A.cm .gtr (A.ar .mul .i64 x0 (A.mx x3 1)) (A.ar .mul .i64 x2 (A.mx x1 1))) with
                    | true => (k0 1)
                    | false => (match (A.cm .lss (A.ar .mul .i64 x0 (A.mx x3 1)) (A.ar .mul .i64 x2 (A.mx x1 1))) with
                      | true => (k0 (-1))
                      | false => (k0 0))))))
            | false => (match (A.cm .eql x3 0) with
              | true => (match (A.cm .gtr x2 0) with
                | true => (k0 (-1))
                | false => (match (A.cm .gtr (A.ar .mul .i64 x0 (A.mx x3 1)) (A.ar .mul .i64 x2 (A.mx x1 1))) with
                  | true => (k0 1)
                  | false => (match (A.cm .lss (A.ar .mul .i64 x0 (A.mx x3 1)) (A.ar .mul .i64 x2 (A.mx x1 1))) with
                    | true => (k0 (-1))
                    | false => (k0 0))))
              | false => (match (A.cm .gtr (A.ar .mul .i64 x0 (A.mx x3 1)) (A.ar .mul .i64 x2 (A.mx x1 1))) with
                | true => (k0 1)
                | false => (match (A.cm .lss (A.ar .mul .i64 x0 (A.mx x3 1)) (A.ar .mul .i64 x2 (A.mx x1 1))) with
                  | true => (k0 (-1))
                  | false => (k0 0))))))))
def F29_0 {β : Type} (A : Pr) (B : Pk) (N : Nat) (x0 x1 x2 x3 : Int) (k0 : Int → Option β) : Option β :=
  G29_0 A B (F45_0 A B N) x0 x1 x2 x3 k0
def P26 : List PT := [pI, pI, pI, pI]
def M29_0 {β : Type} (f29_0 : Int → Int → Int → Int → (Int → Option β) → Option β) (a : List T) : Option ((T → List (List T) → Option β) → Option β) :=
  match gTs P26 a [] with
  | some [.i x0, .i x1, .i x2, .i x3] => some fun kk => f29_0 x0 x1 x2 x3 (fun x4 => kk (tI x4) [])
  | _ => none
theorem e29_0 {β : Type} (A : Pr) (B : Pk) (f45_0 : Int → Int → (Bool → Option β) → Option β) (x0 x1 x2 x3 : Int) (kk : T → List (List T) → Option β) :
    uTs P26 [.i x0, .i x1, .i x2, .i x3] (fun a _ => bodyK (mkK Tryz.prog A B [(45, M45_0 f45_0)] [] (Hn 29).pt []) Tryz.f29 a kk) = G29_0 A B f45_0 x0 x1 x2 x3 (fun x4 => kk (tI x4) []) := by kernel_rfl
theorem o29_0 {β : Type} (N : Nat) : Snd (β := β) Tryz.prog Hn 29 (M29_0 (F29_0 re rk N)) := by
  intro a h kk r ha hr
  unfold M29_0 at ha
  split at ha
  · rename_i hs
    cases ha
    have hk := via_pat hs ((e29_0 re rk (F45_0 re rk N) _ _ _ _ kk).trans hr)
    exact fn_ok (f := 29) (fn := Tryz.f29) (H := Hn) (by kernel_rfl) (show SndAll Tryz.prog Hn [(45, M45_0 (F45_0 re rk N))] from ⟨o45_0 N, trivial⟩) (spots := []) (by kernel_rfl) trivial hk
  · cases ha
noncomputable def X44_3 : Code := atF Tryz.f44 [true, true, false, true, false, false]
theorem i44_3 : firstReg X44_3 = 3 := by kernel_rfl
def GL44_3_0 {β : Type} (A : Pr) (B : Pk) (f29_0 : Int → Int → Int → Int → (Int → Option β) → Option β) (l44_3_0 : (Int → Int → Option β) → Int → List R → List R → Int → Int → Option β) (k0 : Int → Int → Option β) (x0 : Int) (x1 x2 : List R) (x3 x4 : Int) : Option β :=
    match (A.cm .lss x4 (A.on (A.len x1))) with
    | true => (match (A.ix x4 (A.len x2)) with
      | some x5 => (match (B.okE [(Sh.i .i64)] false x2 x5) with
        | true => (match (A.ix x0 (A.len x2)) with
          | some x6 => (match (B.okE [(Sh.i .i64)] false x2 x6) with
            | true => (match (A.cm .geq (B.ci x2 x5 0) (B.ci x2 x6 0)) with
              | true => (l44_3_0 k0 x0 x1 x2 x3 (A.ar .add .i64 x4 1))
              | false => (match (A.cm .lss x3 0) with
                | true => (l44_3_0 k0 x0 x1 x2 x4 (A.ar .add .i64 x4 1))
                | false => (match (A.ix x0 (A.len x2)) with
                  | some x7 => (match (B.okE [(Sh.i .i64)] false x2 x7) with
                    | true => (match (A.ix x4 (A.len x2)) with
                      | some x8 => (match (B.okE [(Sh.i .i64)] false x2 x8) with
                        | true => (match (A.ix x4 (A.len x1)) with
                          | some x9 => (match (B.okE [(Sh.i .i64)] false x1 x9) with
                            | true => (match (A.ix x0 (A.len x1)) with
                              | some xa => (match (B.okE [(Sh.i .i64)] false x1 xa) with
                                | true => (match (A.ix x0 (A.len x2)) with
                                  | some xb => (match (B.okE [(Sh.i .i64)] false x2 xb) with
                                    | true => (match (A.ix x3 (A.len x2)) with
                                      | some xc => (match (B.okE [(Sh.i .i64)] false x2 xc) with
                                        | true => (match (A.ix x3 (A.len x1)) with
                                          | some xd => (match (B.okE [(Sh.i .i64)] false x1 xd) with
                                            | true => (match (A.ix x0 (A.len x1)) with
                                              | some xe => (match (B.okE [(Sh.i .i64)] false x1 xe) with
                                                | true => (f29_0 (A.ar .sub .i64 (B.ci x2 x7 0) (B.ci x2 x8 0)) (A.ar .sub .i64 (B.ci x1 x9 0) (B.ci x1 xa 0)) (A.ar .sub .i64 (B.ci x2 xb 0) (B.ci x2 xc 0)) (A.ar .sub .i64 (B.ci x1 xd 0) (B.ci x1 xe 0)) (fun xf =>
                                                  match (A.cm .gtr xf 0) with
                                                    | true => (l44_3_0 k0 x0 x1 x2 x4 (A.ar .add .i64 x4 1))
                                                    | false => (match (A.cm .eql xf 0) with
                                                      | true => (match (A.ix x4 (A.len x2)) with
                                                        | some xg => (match (B.okE [(Sh.i .i64)] false x2 xg) with
                                                          | true => (match (A.ix x3 (A.len x2)) with
                                                            | some xh => (match (B.okE [(Sh.i .i64)] false x2 xh) with
                                                              | true => (match (A.cm .lss (B.ci x2 xg 0) (B.ci x2 xh 0)) with
                                                                | true => (l44_3_0 k0 x0 x1 x2 x4 (A.ar .add .i64 x4 1))
                                                                | false => (l44_3_0 k0 x0 x1 x2 x3 (A.ar .add .i64 x4 1)))
                                                              | false => none)
                                                            | none => none)
                                                          | false => none)
                                                        | none => none)
                                                      | false => (l44_3_0 k0 x0 x1 x2 x3 (A.ar .add .i64 x4 1)))))
                                                | false => none)
                                              | none => none)
                                            | false => none)
                                          | none => none)
                                        | false => none)
                                      | none => none)
                                    | false => none)
                                  | none => none)
                                | false => none)
                              | none => none)
                            | false => none)
                          | none => none)
                        | false => none)
                      | none => none)
                    | false => none)
                  | none => none)))
            | false => none)
          | none => none)
        | false => none)
      | none => none)
    | false => (k0 x0 x3)
def L44_3_0 {β : Type} (A : Pr) (B : Pk) (N : Nat) : Nat → (Int → Int → Option β) → Int → List R → List R → Int → Int → Option β
  | 0, _, _, _, _, _, _ => none
  | n + 1, k0, x0, x1, x2, x3, x4 =>
    GL44_3_0 A B (F29_0 A B N) (L44_3_0 A B N n) k0 x0 x1 x2 x3 x4
def P27 : List PT := [.us 1, pI, .us 3, pI, .us 91]
def S27 (x0 x1 : Int) : List T := (T.u :: (tI x0) :: T.u :: T.u :: T.u :: (tI x1) :: T.u :: T.u :: T.u :: T.u :: T.u :: T.u :: T.u :: T.u :: T.u :: T.u :: T.u :: T.u :: T.u :: T.u :: T.u :: T.u :: T.u :: T.u :: T.u :: T.u :: T.u :: T.u :: T.u :: T.u :: T.u :: T.u :: T.u :: T.u :: T.u :: T.u :: T.u :: T.u :: T.u :: T.u :: T.u :: T.u :: T.u :: T.u :: T.u :: T.u :: T.u :: T.u :: T.u :: T.u :: T.u :: T.u :: T.u :: T.u :: T.u :: T.u :: T.u :: T.u :: T.u :: T.u :: T.u :: T.u :: T.u :: T.u :: T.u :: T.u :: T.u :: T.u :: T.u :: T.u :: T.u :: T.u :: T.u :: T.u :: T.u :: T.u :: T.u :: T.u :: T.u :: T.u :: T.u :: T.u :: T.u :: T.u :: T.u :: T.u :: T.u :: T.u :: T.u :: T.u :: T.u :: T.u :: T.u :: T.u :: T.u :: T.u :: T.u :: [])
def P28 : List PT := [.us 1, pI, (.bx [(.r (.ro 1)), (.r (.ro 1))]), .us 2, pI, pI, .us 90]
noncomputable def ML44_3 {β : Type} (l44_3_0 : (Int → Int → Option β) → Int → List R → List R → Int → Int → Option β) (s : List T) : Option ((Ex → List T → Option β) → Option β) :=
  match gTs P28 (clean ((Hn 44).lp 3).1 s) [] with
  | some [.i x0, .l x1, .l x2, .i x3, .i x4] => some fun kk => l44_3_0 (fun x5 x6 => kk (Ex.ex 0) (S27 x5 x6)) x0 x1 x2 x3 x4
  | _ => none
theorem e44_3_0 {β : Type} (A : Pr) (B : Pk) (f29_0 : Int → Int → Int → Int → (Int → Option β) → Option β) (l44_3_0 : (Int → Int → Option β) → Int → List R → List R → Int → Int → Option β) (x0 : Int) (x1 x2 : List R) (x3 x4 : Int) (kk : Ex → List T → Option β) :
    uTs P28 [.i x0, .l x1, .l x2, .i x3, .i x4] (fun s _ => evK (mkK Tryz.prog A B [(29, M29_0 f29_0)] [] (Hn 44).pt []) X44_3 s (fun e s' => match e with
      | .nm => (match ML44_3 l44_3_0 s' with | some h => h kk | none => none)
      | .ex m => kk (.ex m) (clean ((Hn 44).lp (firstReg X44_3)).2 s')
      | .rt => kk .rt (clean ((Hn 44).lp (firstReg X44_3)).2 s'))) = GL44_3_0 A B f29_0 l44_3_0 (fun x5 x6 => kk (Ex.ex 0) (S27 x5 x6)) x0 x1 x2 x3 x4 := by kernel_rfl
theorem ol44_3 {β : Type} (N : Nat) : ∀ n, SndL (β := β) Tryz.prog Hn (Hn 44) X44_3 (ML44_3 (L44_3_0 re rk N n))
  | 0 => by
    intro s h kk r ha hr
    unfold ML44_3 at ha
    split at ha
    · cases ha; cases hr
    · cases ha
  | n + 1 => by
    have ih := ol44_3 (β := β) N n
    intro s h kk r ha hr
    unfold ML44_3 at ha
    split at ha
    · rename_i hs
      cases ha
      have hk := via_pat hs ((e44_3_0 re rk (F29_0 re rk N) (L44_3_0 re rk N n) _ _ _ _ _ kk).trans hr)
      exact round_ok (show SndAll Tryz.prog Hn [(29, M29_0 (F29_0 re rk N))] from ⟨o29_0 N, trivial⟩) (spots := []) (by kernel_rfl) trivial ih (hd := clean ((Hn 44).lp 3).1 s) (by rw [i44_3]) hk
    · cases ha
def G44_0 {β : Type} (A : Pr) (B : Pk) (l44_3_0 : (Int → Int → Option β) → Int → List R → List R → Int → Int → Option β) (x0 x1 : List R) (x2 : Int) (k0 : Int → Option β) : Option β :=
    l44_3_0 (fun x3 x4 =>
    k0 x4) x2 x0 x1 (-1) (A.ar .add .i64 x2 1)
def F44_0 {β : Type} (A : Pr) (B : Pk) (N : Nat) (x0 x1 : List R) (x2 : Int) (k0 : Int → Option β) : Option β :=
  G44_0 A B (L44_3_0 A B N N) x0 x1 x2 k0
def P29 : List PT := [(.r (.a [(.ro 1), (.ro 1)])), pI]
def M44_0 {β : Type} (f44_0 : List R → List R → Int → (Int → Option β) → Option β) (a : List T) : Option ((T → List (List T) → Option β) → Option β) :=
  match gTs P29 a [] with
  | some [.l x0, .l x1, .i x2] => some fun kk => f44_0 x0 x1 x2 (fun x3 => kk (tI x3) [])
  | _ => none
theorem e44_0 {β : Type} (A : Pr) (B : Pk) (l44_3_0 : (Int → Int → Option β) → Int → List R → List R → Int → Int → Option β) (x0 x1 : List R) (x2 : Int) (kk : T → List (List T) → Option β) :
    uTs P29 [.l x0, .l x1, .i x2] (fun a _ => bodyK (mkK Tryz.prog A B [] [(3, ML44_3 l44_3_0)] (Hn 44).pt []) Tryz.f44 a kk) = G44_0 A B l44_3_0 x0 x1 x2 (fun x3 => kk (tI x3) []) := by kernel_rfl
theorem o44_0 {β : Type} (N : Nat) : Snd (β := β) Tryz.prog Hn 44 (M44_0 (F44_0 re rk N)) := by
  intro a h kk r ha hr
  unfold M44_0 at ha
  split at ha
  · rename_i hs
    cases ha
    have hk := via_pat hs ((e44_0 re rk (L44_3_0 re rk N N) _ _ _ kk).trans hr)
    exact fn_ok (f := 44) (fn := Tryz.f44) (H := Hn) (by kernel_rfl) (show SndAll Tryz.prog Hn [] from trivial) (spots := [.lp X44_3]) (by kernel_rfl) ⟨cut_lp (id := 3) i44_3 (ol44_3 N N) (fun s kk => by kernel_rfl), trivial⟩ hk
  · cases ha
noncomputable def X28_5 : Code := atF Tryz.f28 [true, true, true, false, true, false, false]
theorem i28_5 : firstReg X28_5 = 5 := by kernel_rfl
def GL28_5_0 {β : Type} (A : Pr) (B : Pk) (f44_0 : List R → List R → Int → (Int → Option β) → Option β) (l28_5_0 : (List R → Option β) → List R → List R → List R → Int → Option β) (k0 : List R → Option β) (x0 x1 x2 : List R) (x3 : Int) : Option β :=
    match (A.cm .geq x3 0) with
    | true => (match (A.small (A.len (A.app x2 [(R.i .i64 x3)])) 8) with
      | true => (f44_0 x0 x1 x3 (fun x4 =>
        l28_5_0 k0 x0 x1 (A.app x2 [(R.i .i64 x3)]) x4))
      | false => none)
    | false => (k0 x2)
def L28_5_0 {β : Type} (A : Pr) (B : Pk) (N : Nat) : Nat → (List R → Option β) → List R → List R → List R → Int → Option β
  | 0, _, _, _, _, _ => none
  | n + 1, k0, x0, x1, x2, x3 =>
    GL28_5_0 A B (F44_0 A B N) (L28_5_0 A B N n) k0 x0 x1 x2 x3
def P30 : List PT := [.us 3, (.own true 1), .us 14]
def S30 (x0 : List R) : List T := [T.u, T.u, T.u, (T.own true 1 x0), T.u, T.u, T.u, T.u, T.u, T.u, T.u, T.u, T.u, T.u, T.u, T.u, T.u, T.u]
def P31 : List PT := [.us 1, (.bx [(.r (.ro 1)), (.r (.ro 1))]), .us 1, (.own true 1), pI, .us 13]
noncomputable def ML28_5 {β : Type} (l28_5_0 : (List R → Option β) → List R → List R → List R → Int → Option β) (s : List T) : Option ((Ex → List T → Option β) → Option β) :=
  match gTs P31 (clean ((Hn 28).lp 5).1 s) [] with
  | some [.l x0, .l x1, .l x2, .i x3] => some fun kk => l28_5_0 (fun x4 => kk (Ex.ex 0) (S30 x4)) x0 x1 x2 x3
  | _ => none
theorem e28_5_0 {β : Type} (A : Pr) (B : Pk) (f44_0 : List R → List R → Int → (Int → Option β) → Option β) (l28_5_0 : (List R → Option β) → List R → List R → List R → Int → Option β) (x0 x1 x2 : List R) (x3 : Int) (kk : Ex → List T → Option β) :
    uTs P31 [.l x0, .l x1, .l x2, .i x3] (fun s _ => evK (mkK Tryz.prog A B [(44, M44_0 f44_0)] [] (Hn 28).pt []) X28_5 s (fun e s' => match e with
      | .nm => (match ML28_5 l28_5_0 s' with | some h => h kk | none => none)
      | .ex m => kk (.ex m) (clean ((Hn 28).lp (firstReg X28_5)).2 s')
      | .rt => kk .rt (clean ((Hn 28).lp (firstReg X28_5)).2 s'))) = GL28_5_0 A B f44_0 l28_5_0 (fun x4 => kk (Ex.ex 0) (S30 x4)) x0 x1 x2 x3 := by kernel_rfl
theorem ol28_5 {β : Type} (N : Nat) : ∀ n, SndL (β := β) Tryz.prog Hn (Hn 28) X28_5 (ML28_5 (L28_5_0 re rk N n))
  | 0 => by
    intro s h kk r ha hr
    unfold ML28_5 at ha
    split at ha
    · cases ha; cases hr
    · cases ha
  | n + 1 => by
    have ih := ol28_5 (β := β) N n
    intro s h kk r ha hr
    unfold ML28_5 at ha
    split at ha
    · rename_i hs
      cases ha
      have hk := via_pat hs ((e28_5_0 re rk (F44_0 re rk N) (L28_5_0 re rk N n) _ _ _ _ kk).trans hr)
      exact round_ok (show SndAll Tryz.prog Hn [(44, M44_0 (F44_0 re rk N))] from ⟨o44_0 N, trivial⟩) (spots := []) (by kernel_rfl) trivial ih (hd := clean ((Hn 28).lp 5).1 s) (by rw [i28_5]) hk
    · cases ha
def G28_0 {β : Type} (A : Pr) (B : Pk) (f27_0 : List R → List R → (Bool → Option β) → Option β) (l28_5_0 : (List R → Option β) → List R → List R → List R → Int → Option β) (x0 x1 : List R) (k0 : List R → Option β) : Option β :=
    f27_0 x0 x1 (fun x2 =>
    match (A.bn x2) with
      | true => (k0 [])
      | false => (l28_5_0 (fun x3 =>
        k0 x3) x0 x1 [] 0))
def F28_0 {β : Type} (A : Pr) (B : Pk) (N : Nat) (x0 x1 : List R) (k0 : List R → Option β) : Option β :=
  G28_0 A B (F27_0 A B N) (L28_5_0 A B N N) x0 x1 k0
def M28_0 {β : Type} (f28_0 : List R → List R → (List R → Option β) → Option β) (a : List T) : Option ((T → List (List T) → Option β) → Option β) :=
  match gTs P7 a [] with
  | some [.l x0, .l x1] => some fun kk => f28_0 x0 x1 (fun x2 => kk (T.own true 1 x2) [])
  | _ => none
theorem e28_0 {β : Type} (A : Pr) (B : Pk) (f27_0 : List R → List R → (Bool → Option β) → Option β) (l28_5_0 : (List R → Option β) → List R → List R → List R → Int → Option β) (x0 x1 : List R) (kk : T → List (List T) → Option β) :
    uTs P7 [.l x0, .l x1] (fun a _ => bodyK (mkK Tryz.prog A B [(27, M27_0 f27_0)] [(5, ML28_5 l28_5_0)] (Hn 28).pt []) Tryz.f28 a kk) = G28_0 A B f27_0 l28_5_0 x0 x1 (fun x2 => kk (T.own true 1 x2) []) := by kernel_rfl
theorem o28_0 {β : Type} (N : Nat) : Snd (β := β) Tryz.prog Hn 28 (M28_0 (F28_0 re rk N)) := by
  intro a h kk r ha hr
  unfold M28_0 at ha
  split at ha
  · rename_i hs
    cases ha
    have hk := via_pat hs ((e28_0 re rk (F27_0 re rk N) (L28_5_0 re rk N N) _ _ kk).trans hr)
    exact fn_ok (f := 28) (fn := Tryz.f28) (H := Hn) (by kernel_rfl) (show SndAll Tryz.prog Hn [(27, M27_0 (F27_0 re rk N))] from ⟨o27_0 N, trivial⟩) (spots := [.lp X28_5]) (by kernel_rfl) ⟨cut_lp (id := 5) i28_5 (ol28_5 N N) (fun s kk => by kernel_rfl), trivial⟩ hk
  · cases ha
noncomputable def X18_12 : Code := atF Tryz.f18 [true, true, false, true, false, false, true, true, false, false, true, true, true, false, false, true, false, false, true, true, true, false, false, false]
theorem i18_12 : firstReg X18_12 = 12 := by kernel_rfl
def GL18_12_0 {β : Type} (A : Pr) (B : Pk) (f29_0 : Int → Int → Int → Int → (Int → Option β) → Option β) (l18_12_0 : (Q0 β) → Q0 β) (k0 : Q0 β) (x0 : List R) (x1 : Int) (x2 x3 x4 : List R) (x5 x6 x7 x8 x9 xa : Int) (xb : List R) (xc xd : Int) : Option β :=
    match (A.cm .gtr xa 0) with
    | true => (match (A.ix (A.ar .sub .i64 xa 1) (A.len x0)) with
      | some xe => (match (B.okC [(Sh.i .i64)] x0 xe 0) with
        | true => (match (A.ix (A.ar .sub .i64 xa 1) (A.len x0)) with
          | some xf => (match (B.okC [(Sh.i .i64)] x0 xf 1) with
            | true => (f29_0 x6 x7 (B.ci x0 xe 0) (B.ci x0 xf 1) (fun xg =>
              match (A.cm .gtr xg 0) with
                | true => (l18_12_0 k0 x0 x1 x2 x3 x4 x5 x6 x7 x8 x9 (A.ar .sub .i64 xa 1) xb xc xd)
                | false => (k0 x0 x1 x2 x3 x4 x5 x6 x7 x8 x9 xa xb xc xd)))
            | false => none)
          | none => none)
        | false => none)
      | none => none)
    | false => (k0 x0 x1 x2 x3 x4 x5 x6 x7 x8 x9 xa xb xc xd)
def L18_12_0 {β : Type} (A : Pr) (B : Pk) (N : Nat) : Nat → (Q0 β) → Q0 β
  | 0, _, _, _, _, _, _, _, _, _, _, _, _, _, _, _ => none
  | n + 1, k0, x0, x1, x2, x3, x4, x5, x6, x7, x8, x9, xa, xb, xc, xd =>
    GL18_12_0 A B (F29_0 A B N) (L18_12_0 A B N n) k0 x0 x1 x2 x3 x4 x5 x6 x7 x8 x9 xa xb xc xd
def P32 : List PT := [.us 3, (.own true 4), pI, (.bx [(.r (.ro 1)), (.r (.ro 1))]), (.own true 1), pI, .us 2, (.bx [pI, pI, pI, pI]), pI, (.r (.ro 2)), pI, pI, .us 90]
def S32 (x0 : List R) (x1 : Int) (x2 x3 x4 : List R) (x5 x6 x7 x8 x9 xa : Int) (xb : List R) (xc xd : Int) : List T := (T.u :: T.u :: T.u :: (T.own true 4 x0) :: (tI x1) :: (T.bx [(T.r (R.ro 1 x2)), (T.r (R.ro 1 x3))]) :: (T.own true 1 x4) :: (tI x5) :: T.u :: T.u :: (T.bx [(tI x6), (tI x7), (tI x8), (tI x9)]) :: (tI xa) :: (T.r (R.ro 2 xb)) :: (tI xc) :: (tI xd) :: T.u :: T.u :: T.u :: T.u :: T.u :: T.u :: T.u :: T.u :: T.u :: T.u :: T.u :: T.u :: T.u :: T.u :: T.u :: T.u :: T.u :: T.u :: T.u :: T.u :: T.u :: T.u :: T.u :: T.u :: T.u :: T.u :: T.u :: T.u :: T.u :: T.u :: T.u :: T.u :: T.u :: T.u :: T.u :: T.u :: T.u :: T.u :: T.u :: T.u :: T.u :: T.u :: T.u :: T.u :: T.u :: T.u :: T.u :: T.u :: T.u :: T.u :: T.u :: T.u :: T.u :: T.u :: T.u :: T.u :: T.u :: T.u :: T.u :: T.u :: T.u :: T.u :: T.u :: T.u :: T.u :: T.u :: T.u :: T.u :: T.u :: T.u :: T.u :: T.u :: T.u :: T.u :: T.u :: T.u :: T.u :: T.u :: T.u :: T.u :: T.u :: T.u :: T.u :: T.u :: T.u :: T.u :: T.u :: T.u :: T.u :: T.u :: [])
noncomputable def ML18_12 {β : Type} (l18_12_0 : (Q0 β) → Q0 β) (s : List T) : Option ((Ex → List T → Option β) → Option β) :=
  match gTs P32 (clean ((Hn 18).lp 12).1 s) [] with
  | some [.l x0, .i x1, .l x2, .l x3, .l x4, .i x5, .i x6, .i x7, .i x8, .i x9, .i xa, .l xb, .i xc, .i xd] => some fun kk => l18_12_0 (fun xe xf xg xh xi xj xk xl xm xn xo xp xq xr => kk (Ex.ex 4) (S32 xe xf xg xh xi xj xk xl xm xn xo xp xq xr)) x0 x1 x2 x3 x4 x5 x6 x7 x8 x9 xa xb xc xd
  | _ => none
theorem e18_12_0 {β : Type} (A : Pr) (B : Pk) (f29_0 : Int → Int → Int → Int → (Int → Option β) → Option β) (l18_12_0 : (Q0 β) → Q0 β) (x0 : List R) (x1 : Int) (x2 x3 x4 : List R) (x5 x6 x7 x8 x9 xa : Int) (xb : List R) (xc xd : Int) (kk : Ex → List T → Option β) :
    uTs P32 [.l x0, .i x1, .l x2, .l x3, .l x4, .i x5, .i x6, .i x7, .i x8, .i x9, .i xa, .l xb, .i xc, .i xd] (fun s _ => evK (mkK Tryz.prog A B [(29, M29_0 f29_0)] [] (Hn 18).pt []) X18_12 s (fun e s' => match e with
      | .nm => (match ML18_12 l18_12_0 s' with | some h => h kk | none => none)
      | .ex m => kk (.ex m) (clean ((Hn 18).lp (firstReg X18_12)).2 s')
      | .rt => kk .rt (clean ((Hn 18).lp (firstReg X18_12)).2 s'))) = GL18_12_0 A B f29_0 l18_12_0 (fun xe xf xg xh xi xj xk xl xm xn xo xp xq xr => kk (Ex.ex 4) (S32 xe xf xg xh xi xj xk xl xm xn xo xp xq xr)) x0 x1 x2 x3 x4 x5 x6 x7 x8 x9 xa xb xc xd := by kernel_rfl
theorem ol18_12 {β : Type} (N : Nat) : ∀ n, SndL (β := β) Tryz.prog Hn (Hn 18) X18_12 (ML18_12 (L18_12_0 re rk N n))
  | 0 => by
    intro s h kk r ha hr
    unfold ML18_12 at ha
    split at ha
    · cases ha; cases hr
    · cases ha
  | n + 1 => by
    have ih := ol18_12 (β := β) N n
    intro s h kk r ha hr
    unfold ML18_12 at ha
    split at ha
    · rename_i hs
      cases ha
      have hk := via_pat hs ((e18_12_0 re rk (F29_0 re rk N) (L18_12_0 re rk N n) _ _ _ _ _ _ _ _ _ _ _ _ _ _ kk).trans hr)
      exact round_ok (show SndAll Tryz.prog Hn [(29, M29_0 (F29_0 re rk N))] from ⟨o29_0 N, trivial⟩) (spots := []) (by kernel_rfl) trivial ih (hd := clean ((Hn 18).lp 12).1 s) (by rw [i18_12]) hk
    · cases ha
noncomputable def X18_7 : Code := atF Tryz.f18 [true, true, false, true, false, false, true, true, false, false, true, true, true, false, false]
theorem i18_7 : firstReg X18_7 = 7 := by kernel_rfl
def GL18_7_0 {β : Type} (A : Pr) (B : Pk) (l18_12_0 : (Q0 β) → Q0 β) (l18_7_0 : (List R → List R → Int → Int → Option β) → Q1 β) (k0 : List R → List R → Int → Int → Option β) (x0 : List R) (x1 : Int) (x2 x3 x4 : List R) (x5 : Int) (x6 : List R) (x7 x8 : Int) : Option β :=
    match (A.cm .lss x5 (A.on (A.len x4))) with
    | true => (match (A.ix (A.ar .sub .i64 x5 1) (A.len x4)) with
      | some x9 => (match (B.okC [(Sh.i .i64)] x4 x9 0) with
        | true => (match (A.ix x5 (A.len x4)) with
          | some xa => (match (B.okC [(Sh.i .i64)] x4 xa 0) with
            | true => (match (A.ix (B.ci x4 x9 0) (A.len x3)) with
              | some xb => (match (B.okE [(Sh.i .i64)] false x3 xb) with
                | true => (match (A.ix (B.ci x4 xa 0) (A.len x3)) with
                  | some xc => (match (B.okE [(Sh.i .i64)] false x3 xc) with
                    | true => (match (A.ix (B.ci x4 xa 0) (A.len x2)) with
                      | some xd => (match (B.okE [(Sh.i .i64)] false x2 xd) with
                        | true => (match (A.ix (B.ci x4 x9 0) (A.len x2)) with
                          | some xe => (match (B.okE [(Sh.i .i64)] false x2 xe) with
                            | true => (l18_12_0 (fun xf xg xh xi xj xk xl xm xn xo xp xq xr xs =>
                              match (A.small (A.len (A.app xf [(R.a [(R.i .i64 0), (R.i .i64 0), (R.i .i64 0), (R.i .i64 0)])])) 32) with
                                | true => (match (A.sx (A.ar .add .i64 xp 1) (A.len (A.app xf [(R.a [(R.i .i64 0), (R.i .i64 0), (R.i .i64 0), (R.i .i64 0)])]))) with
                                  | some xt => (match (A.sx xp (A.len (A.app xf [(R.a [(R.i .i64 0), (R.i .i64 0), (R.i .i64 0), (R.i .i64 0)])]))) with
                                    | some xu => (match (A.ix xp (A.len (A.spl (A.app xf [(R.a [(R.i .i64 0), (R.i .i64 0), (R.i .i64 0), (R.i .i64 0)])]) xt (A.seg (A.seg (A.app xf [(R.a [(R.i .i64 0), (R.i .i64 0), (R.i .i64 0), (R.i .i64 0)])]) xu (A.sub (A.len (A.app xf [(R.a [(R.i .i64 0), (R.i .i64 0), (R.i .i64 0), (R.i .i64 0)])])) xu)) 0 (A.nmn (A.len (A.seg (A.app xf [(R.a [(R.i .i64 0), (R.i .i64 0), (R.i .i64 0), (R.i .i64 0)])]) xu (A.sub (A.len (A.app xf [(R.a [(R.i .i64 0), (R.i .i64 0), (R.i .i64 0), (R.i .i64 0)])])) xu))) (A.sub (A.len (A.app xf [(R.a [(R.i .i64 0), (R.i .i64 0), (R.i .i64 0), (R.i .i64 0)])])) xt)))))) with
                                      | some xv => (match (B.okE [(Sh.i .i64), (Sh.i .i64), (Sh.i .i64), (Sh.i .i64)] true (A.spl (A.app xf [(R.a [(R.i .i64 0), (R.i .i64 0), (R.i .i64 0), (R.i .i64 0)])]) xt (A.seg (A.seg (A.app xf [(R.a [(R.i .i64 0), (R.i .i64 0), (R.i .i64 0), (R.i .i64 0)])]) xu (A.sub (A.len (A.app xf [(R.a [(R.i .i64 0), (R.i .i64 0), (R.i .i64 0), (R.i .i64 0)])])) xu)) 0 (A.nmn (A.len (A.seg (A.app xf [(R.a [(R.i .i64 0), (R.i .i64 0), (R.i .i64 0), (R.i .i64 0)])]) xu (A.sub (A.len (A.app xf [(R.a [(R.i .i64 0), (R.i .i64 0), (R.i .i64 0), (R.i .i64 0)])])) xu))) (A.sub (A.len (A.app xf [(R.a [(R.i .i64 0), (R.i .i64 0), (R.i .i64 0), (R.i .i64 0)])])) xt)))) xv) with
                                        | true => (l18_7_0 k0 (A.set (A.spl (A.app xf [(R.a [(R.i .i64 0), (R.i .i64 0), (R.i .i64 0), (R.i .i64 0)])]) xt (A.seg (A.seg (A.app xf [(R.a [(R.i .i64 0), (R.i .i64 0), (R.i .i64 0), (R.i .i64 0)])]) xu (A.sub (A.len (A.app xf [(R.a [(R.i .i64 0), (R.i .i64 0), (R.i .i64 0), (R.i .i64 0)])])) xu)) 0 (A.nmn (A.len (A.seg (A.app xf [(R.a [(R.i .i64 0), (R.i .i64 0), (R.i .i64 0), (R.i .i64 0)])]) xu (A.sub (A.len (A.app xf [(R.a [(R.i .i64 0), (R.i .i64 0), (R.i .i64 0), (R.i .i64 0)])])) xu))) (A.sub (A.len (A.app xf [(R.a [(R.i .i64 0), (R.i .i64 0), (R.i .i64 0), (R.i .i64 0)])])) xt)))) xv (R.a [(R.i .i64 xl), (R.i .i64 xm), (R.i .i64 xn), (R.i .i64 xo)])) xg xh xi xj (A.ar .add .i64 xk 1) xq xr xs)
                                        | false => none)
                                      | none => none)
                                    | none => none)
                                  | none => none)
                                | false => none) x0 x1 x2 x3 x4 x5 (A.ar .sub .i64 (B.ci x3 xb 0) (B.ci x3 xc 0)) (A.ar .sub .i64 (B.ci x2 xd 0) (B.ci x2 xe 0)) x1 (B.ci x4 xa 0) (A.on (A.len x0)) x6 x7 x8)
                            | false => none)
                          | none => none)
                        | false => none)
                      | none => none)
                    | false => none)
                  | none => none)
                | false => none)
              | none => none)
            | false => none)
          | none => none)
        | false => none)
      | none => none)
    | false => (k0 x0 x6 x7 x8)
def L18_7_0 {β : Type} (A : Pr) (B : Pk) (N : Nat) : Nat → (List R → List R → Int → Int → Option β) → Q1 β
  | 0, _, _, _, _, _, _, _, _, _, _ => none
  | n + 1, k0, x0, x1, x2, x3, x4, x5, x6, x7, x8 =>
    GL18_7_0 A B (L18_12_0 A B N N) (L18_7_0 A B N n) k0 x0 x1 x2 x3 x4 x5 x6 x7 x8
def P33 : List PT := [.us 3, (.own true 4), .us 8, (.r (.ro 2)), pI, pI, .us 90]
def S33 (x0 x1 : List R) (x2 x3 : Int) : List T := (T.u :: T.u :: T.u :: (T.own true 4 x0) :: T.u :: T.u :: T.u :: T.u :: T.u :: T.u :: T.u :: T.u :: (T.r (R.ro 2 x1)) :: (tI x2) :: (tI x3) :: T.u :: T.u :: T.u :: T.u :: T.u :: T.u :: T.u :: T.u :: T.u :: T.u :: T.u :: T.u :: T.u :: T.u :: T.u :: T.u :: T.u :: T.u :: T.u :: T.u :: T.u :: T.u :: T.u :: T.u :: T.u :: T.u :: T.u :: T.u :: T.u :: T.u :: T.u :: T.u :: T.u :: T.u :: T.u :: T.u :: T.u :: T.u :: T.u :: T.u :: T.u :: T.u :: T.u :: T.u :: T.u :: T.u :: T.u :: T.u :: T.u :: T.u :: T.u :: T.u :: T.u :: T.u :: T.u :: T.u :: T.u :: T.u :: T.u :: T.u :: T.u :: T.u :: T.u :: T.u :: T.u :: T.u :: T.u :: T.u :: T.u :: T.u :: T.u :: T.u :: T.u :: T.u :: T.u :: T.u :: T.u :: T.u :: T.u :: T.u :: T.u :: T.u :: T.u :: T.u :: T.u :: T.u :: T.u :: T.u :: T.u :: T.u :: [])
def P34 : List PT := [.us 3, (.own true 4), pI, (.bx [(.r (.ro 1)), (.r (.ro 1))]), (.own true 1), pI, .us 4, (.r (.ro 2)), pI, pI, .us 90]
noncomputable def ML18_7 {β : Type} (l18_7_0 : (List R → List R → Int → Int → Option β) → Q1 β) (s : List T) : Option ((Ex → List T → Option β) → Option β) :=
  match gTs P34 (clean ((Hn 18).lp 7).1 s) [] with
  | some [.l x0, .i x1, .l x2, .l x3, .l x4, .i x5, .l x6, .i x7, .i x8] => some fun kk => l18_7_0 (fun x9 xa xb xc => kk (Ex.ex 2) (S33 x9 xa xb xc)) x0 x1 x2 x3 x4 x5 x6 x7 x8
  | _ => none
theorem e18_7_0 {β : Type} (A : Pr) (B : Pk) (l18_12_0 : (Q0 β) → Q0 β) (l18_7_0 : (List R → List R → Int → Int → Option β) → Q1 β) (x0 : List R) (x1 : Int) (x2 x3 x4 : List R) (x5 : Int) (x6 : List R) (x7 x8 : Int) (kk : Ex → List T → Option β) :
    uTs P34 [.l x0, .i x1, .l x2, .l x3, .l x4, .i x5, .l x6, .i x7, .i x8] (fun s _ => evK (mkK Tryz.prog A B [] [(12, ML18_12 l18_12_0)] (Hn 18).pt []) X18_7 s (fun e s' => match e with
      | .nm => (match ML18_7 l18_7_0 s' with | some h => h kk | none => none)
      | .ex m => kk (.ex m) (clean ((Hn 18).lp (firstReg X18_7)).2 s')
      | .rt => kk .rt (clean ((Hn 18).lp (firstReg X18_7)).2 s'))) = GL18_7_0 A B l18_12_0 l18_7_0 (fun x9 xa xb xc => kk (Ex.ex 2) (S33 x9 xa xb xc)) x0 x1 x2 x3 x4 x5 x6 x7 x8 := by kernel_rfl
theorem ol18_7 {β : Type} (N : Nat) : ∀ n, SndL (β := β) Tryz.prog Hn (Hn 18) X18_7 (ML18_7 (L18_7_0 re rk N n))
  | 0 => by
    intro s h kk r ha hr
    unfold ML18_7 at ha
    split at ha
    · cases ha; cases hr
    · cases ha
  | n + 1 => by
    have ih := ol18_7 (β := β) N n
    intro s h kk r ha hr
    unfold ML18_7 at ha
    split at ha
    · rename_i hs
      cases ha
      have hk := via_pat hs ((e18_7_0 re rk (L18_12_0 re rk N N) (L18_7_0 re rk N n) _ _ _ _ _ _ _ _ _ kk).trans hr)
      exact round_ok (show SndAll Tryz.prog Hn [] from trivial) (spots := [.lp X18_12]) (by kernel_rfl) ⟨cut_lp (id := 12) i18_12 (ol18_12 N N) (fun s kk => by kernel_rfl), trivial⟩ ih (hd := clean ((Hn 18).lp 7).1 s) (by rw [i18_7]) hk
    · cases ha
noncomputable def X18_3 : Code := atF Tryz.f18 [true, true, false, true, false, false]
theorem i18_3 : firstReg X18_3 = 3 := by kernel_rfl
def GL18_3_0 {β : Type} (A : Pr) (B : Pk) (f28_0 : List R → List R → (List R → Option β) → Option β) (l18_7_0 : (List R → List R → Int → Int → Option β) → Q1 β) (l18_3_0 : (List R → Option β) → List R → List R → Int → Int → Option β) (k0 : List R → Option β) (x0 x1 : List R) (x2 x3 : Int) : Option β :=
    match (A.cm .lss x3 x2) with
    | true => (match (A.ix x3 (A.len x1)) with
      | some x4 => (match (B.okE [(Sh.sl 1 (Sh.i .i64)), (Sh.sl 1 (Sh.i .i64))] true x1 x4) with
        | true => (f28_0 (B.cl x1 x4 0) (B.cl x1 x4 1) (fun x5 =>
          l18_7_0 (fun x6 x7 x8 x9 =>
            l18_3_0 k0 x6 x7 x8 (A.ar .add .i64 x9 1)) x0 x3 (B.cl x1 x4 0) (B.cl x1 x4 1) x5 1 x1 x2 x3))
        | false => none)
      | none => none)
    | false => (k0 x0)
def L18_3_0 {β : Type} (A : Pr) (B : Pk) (N : Nat) : Nat → (List R → Option β) → List R → List R → Int → Int → Option β
  | 0, _, _, _, _, _ => none
  | n + 1, k0, x0, x1, x2, x3 =>
    GL18_3_0 A B (F28_0 A B N) (L18_7_0 A B N N) (L18_3_0 A B N n) k0 x0 x1 x2 x3
def P35 : List PT := [.us 3, (.own true 4), .us 101]
def S35 (x0 : List R) : List T := (T.u :: T.u :: T.u :: (T.own true 4 x0) :: T.u :: T.u :: T.u :: T.u :: T.u :: T.u :: T.u :: T.u :: T.u :: T.u :: T.u :: T.u :: T.u :: T.u :: T.u :: T.u :: T.u :: T.u :: T.u :: T.u :: T.u :: T.u :: T.u :: T.u :: T.u :: T.u :: T.u :: T.u :: T.u :: T.u :: T.u :: T.u :: T.u :: T.u :: T.u :: T.u :: T.u :: T.u :: T.u :: T.u :: T.u :: T.u :: T.u :: T.u :: T.u :: T.u :: T.u :: T.u :: T.u :: T.u :: T.u :: T.u :: T.u :: T.u :: T.u :: T.u :: T.u :: T.u :: T.u :: T.u :: T.u :: T.u :: T.u :: T.u :: T.u :: T.u :: T.u :: T.u :: T.u :: T.u :: T.u :: T.u :: T.u :: T.u :: T.u :: T.u :: T.u :: T.u :: T.u :: T.u :: T.u :: T.u :: T.u :: T.u :: T.u :: T.u :: T.u :: T.u :: T.u :: T.u :: T.u :: T.u :: T.u :: T.u :: T.u :: T.u :: T.u :: T.u :: T.u :: T.u :: T.u :: [])
noncomputable def ML18_3 {β : Type} (l18_3_0 : (List R → Option β) → List R → List R → Int → Int → Option β) (s : List T) : Option ((Ex → List T → Option β) → Option β) :=
  match gTs P33 (clean ((Hn 18).lp 3).1 s) [] with
  | some [.l x0, .l x1, .i x2, .i x3] => some fun kk => l18_3_0 (fun x4 => kk (Ex.ex 0) (S35 x4)) x0 x1 x2 x3
  | _ => none
theorem e18_3_0 {β : Type} (A : Pr) (B : Pk) (f28_0 : List R → List R → (List R → Option β) → Option β) (l18_7_0 : (List R → List R → Int → Int → Option β) → Q1 β) (l18_3_0 : (List R → Option β) → List R → List R → Int → Int → Option β) (x0 x1 : List R) (x2 x3 : Int) (kk : Ex → List T → Option β) :
    uTs P33 [.l x0, .l x1, .i x2, .i x3] (fun s _ => evK (mkK Tryz.prog A B [(28, M28_0 f28_0)] [(7, ML18_7 l18_7_0)] (Hn 18).pt []) X18_3 s (fun e s' => match e with
      | .nm => (match ML18_3 l18_3_0 s' with | some h => h kk | none => none)
      | .ex m => kk (.ex m) (clean ((Hn 18).lp (firstReg X18_3)).2 s')
      | .rt => kk .rt (clean ((Hn 18).lp (firstReg X18_3)).2 s'))) = GL18_3_0 A B f28_0 l18_7_0 l18_3_0 (fun x4 => kk (Ex.ex 0) (S35 x4)) x0 x1 x2 x3 := by kernel_rfl
theorem ol18_3 {β : Type} (N : Nat) : ∀ n, SndL (β := β) Tryz.prog Hn (Hn 18) X18_3 (ML18_3 (L18_3_0 re rk N n))
  | 0 => by
    intro s h kk r ha hr
    unfold ML18_3 at ha
    split at ha
    · cases ha; cases hr
    · cases ha
  | n + 1 => by
    have ih := ol18_3 (β := β) N n
    intro s h kk r ha hr
    unfold ML18_3 at ha
    split at ha
    · rename_i hs
      cases ha
      have hk := via_pat hs ((e18_3_0 re rk (F28_0 re rk N) (L18_7_0 re rk N N) (L18_3_0 re rk N n) _ _ _ _ kk).trans hr)
      exact round_ok (show SndAll Tryz.prog Hn [(28, M28_0 (F28_0 re rk N))] from ⟨o28_0 N, trivial⟩) (spots := [.lp X18_7]) (by kernel_rfl) ⟨cut_lp (id := 7) i18_7 (ol18_7 N N) (fun s kk => by kernel_rfl), trivial⟩ ih (hd := clean ((Hn 18).lp 3).1 s) (by rw [i18_3]) hk
    · cases ha
def G18_0 {β : Type} (A : Pr) (B : Pk) (l18_3_0 : (List R → Option β) → List R → List R → Int → Int → Option β) (x0 : List R) (k0 : List R → Option β) : Option β :=
    l18_3_0 (fun x1 =>
    k0 x1) [] x0 (A.on (A.len x0)) 0
def F18_0 {β : Type} (A : Pr) (B : Pk) (N : Nat) (x0 : List R) (k0 : List R → Option β) : Option β :=
  G18_0 A B (L18_3_0 A B N N) x0 k0
def M18_0 {β : Type} (f18_0 : List R → (List R → Option β) → Option β) (a : List T) : Option ((T → List (List T) → Option β) → Option β) :=
  match gTs P11 a [] with
  | some [.l x0] => some fun kk => f18_0 x0 (fun x1 => kk (T.own true 4 x1) [])
  | _ => none
theorem e18_0 {β : Type} (A : Pr) (B : Pk) (l18_3_0 : (List R → Option β) → List R → List R → Int → Int → Option β) (x0 : List R) (kk : T → List (List T) → Option β) :
    uTs P11 [.l x0] (fun a _ => bodyK (mkK Tryz.prog A B [] [(3, ML18_3 l18_3_0)] (Hn 18).pt []) Tryz.f18 a kk) = G18_0 A B l18_3_0 x0 (fun x1 => kk (T.own true 4 x1) []) := by kernel_rfl
theorem o18_0 {β : Type} (N : Nat) : Snd (β := β) Tryz.prog Hn 18 (M18_0 (F18_0 re rk N)) := by
  intro a h kk r ha hr
  unfold M18_0 at ha
  split at ha
  · rename_i hs
    cases ha
    have hk := via_pat hs ((e18_0 re rk (L18_3_0 re rk N N) _ kk).trans hr)
    exact fn_ok (f := 18) (fn := Tryz.f18) (H := Hn) (by kernel_rfl) (show SndAll Tryz.prog Hn [] from trivial) (spots := [.lp X18_3]) (by kernel_rfl) ⟨cut_lp (id := 3) i18_3 (ol18_3 N N) (fun s kk => by kernel_rfl), trivial⟩ hk
  · cases ha
noncomputable def X13_16 : Code := atF Tryz.f13 [true, true, true, true, true, true, false, true, false, false]
theorem i13_16 : firstReg X13_16 = 16 := by kernel_rfl
def GL13_16_0 {β : Type} (A : Pr) (B : Pk) (l13_16_0 : (Int → List R → Option β) → Int → List R → Int → List R → Int → Int → Option β) (k0 : Int → List R → Option β) (x0 : Int) (x1 : List R) (x2 : Int) (x3 : List R) (x4 x5 : Int) : Option β :=
    match (A.cm .lss x5 x4) with
    | true => (match (A.ix x5 (A.len x3)) with
      | some x6 => (match (B.okC [(Sh.i .i64), (Sh.i .i64), (Sh.i .i64), (Sh.i .i64)] x3 x6 0) with
        | true => (match (A.cm .gtr (A.ar .add .i64 x2 (B.ci x3 x6 1)) x0) with
          | true => (k0 x0 x1)
          | false => (match (A.ix (B.ci x3 x6 2) (A.len x1)) with
            | some x7 => (match (B.okC [(Sh.i .i64)] x1 x7 0) with
              | true => (l13_16_0 k0 x0 (B.upd x1 x7 0 (R.i .i64 (B.ci x3 x6 3))) (A.ar .add .i64 x2 (B.ci x3 x6 1)) x3 x4 (A.ar .add .i64 x5 1))
              | false => none)
            | none => none))
        | false => none)
      | none => none)
    | false => (k0 x0 x1)
def L13_16_0 {β : Type} (A : Pr) (B : Pk) (N : Nat) : Nat → (Int → List R → Option β) → Int → List R → Int → List R → Int → Int → Option β
  | 0, _, _, _, _, _, _, _ => none
  | n + 1, k0, x0, x1, x2, x3, x4, x5 =>
    GL13_16_0 A B (L13_16_0 A B N n) k0 x0 x1 x2 x3 x4 x5
def P36 : List PT := [.us 1, pI, .us 5, (.own true 1), .us 58]
def S36 (x0 : Int) (x1 : List R) : List T := (T.u :: (tI x0) :: T.u :: T.u :: T.u :: T.u :: T.u :: (T.own true 1 x1) :: T.u :: T.u :: T.u :: T.u :: T.u :: T.u :: T.u :: T.u :: T.u :: T.u :: T.u :: T.u :: T.u :: T.u :: T.u :: T.u :: T.u :: T.u :: T.u :: T.u :: T.u :: T.u :: T.u :: T.u :: T.u :: T.u :: T.u :: T.u :: T.u :: T.u :: T.u :: T.u :: T.u :: T.u :: T.u :: T.u :: T.u :: T.u :: T.u :: T.u :: T.u :: T.u :: T.u :: T.u :: T.u :: T.u :: T.u :: T.u :: T.u :: T.u :: T.u :: T.u :: T.u :: T.u :: T.u :: T.u :: T.u :: T.u :: [])
def P37 : List PT := [.us 1, pI, .us 5, (.own true 1), .us 2, pI, .us 31, (.own true 4), pI, pI, .us 21]
noncomputable def ML13_16 {β : Type} (l13_16_0 : (Int → List R → Option β) → Int → List R → Int → List R → Int → Int → Option β) (s : List T) : Option ((Ex → List T → Option β) → Option β) :=
  match gTs P37 (clean ((Hn 13).lp 16).1 s) [] with
  | some [.i x0, .l x1, .i x2, .l x3, .i x4, .i x5] => some fun kk => l13_16_0 (fun x6 x7 => kk (Ex.ex 2) (S36 x6 x7)) x0 x1 x2 x3 x4 x5
  | _ => none
theorem e13_16_0 {β : Type} (A : Pr) (B : Pk) (l13_16_0 : (Int → List R → Option β) → Int → List R → Int → List R → Int → Int → Option β) (x0 : Int) (x1 : List R) (x2 : Int) (x3 : List R) (x4 x5 : Int) (kk : Ex → List T → Option β) :
    uTs P37 [.i x0, .l x1, .i x2, .l x3, .i x4, .i x5] (fun s _ => evK (mkK Tryz.prog A B [] [] (Hn 13).pt []) X13_16 s (fun e s' => match e with
      | .nm => (match ML13_16 l13_16_0 s' with | some h => h kk | none => none)
      | .ex m => kk (.ex m) (clean ((Hn 13).lp (firstReg X13_16)).2 s')
      | .rt => kk .rt (clean ((Hn 13).lp (firstReg X13_16)).2 s'))) = GL13_16_0 A B l13_16_0 (fun x6 x7 => kk (Ex.ex 2) (S36 x6 x7)) x0 x1 x2 x3 x4 x5 := by kernel_rfl
theorem ol13_16 {β : Type} (N : Nat) : ∀ n, SndL (β := β) Tryz.prog Hn (Hn 13) X13_16 (ML13_16 (L13_16_0 re rk N n))
  | 0 => by
    intro s h kk r ha hr
    unfold ML13_16 at ha
    split at ha
    · cases ha; cases hr
    · cases ha
  | n + 1 => by
    have ih := ol13_16 (β := β) N n
    intro s h kk r ha hr
    unfold ML13_16 at ha
    split at ha
    · rename_i hs
      cases ha
      have hk := via_pat hs ((e13_16_0 re rk (L13_16_0 re rk N n) _ _ _ _ _ _ kk).trans hr)
      exact round_ok (show SndAll Tryz.prog Hn [] from trivial) (spots := []) (by kernel_rfl) trivial ih (hd := clean ((Hn 13).lp 16).1 s) (by rw [i13_16]) hk
    · cases ha
def G13_0 {β : Type} (A : Pr) (B : Pk) (f17_0 : List R → (Int → Option β) → Option β) (f18_0 : List R → (List R → Option β) → Option β) (l13_9_0 : (List R → Option β) → List R → List R → Int → Int → Option β) (l13_16_0 : (Int → List R → Option β) → Int → List R → Int → List R → Int → Int → Option β) (x0 : List R) (x1 : Int) (k0 : List R → Int → Option β) : Option β :=
    f17_0 x0 (fun x2 =>
    match (A.cm .neq x2 0) with
      | true => (k0 [] x2)
      | false => (match (A.cm .lss x1 (-1)) with
        | true => (k0 [] 2)
        | false => (match (A.mkn (A.on (A.len x0)) 8) with
          | some x3 => (match (A.sx (A.on (A.len x0)) x3) with
            | some x4 => (match (A.cm .eql x1 (-1)) with
              | true => (l13_9_0 (fun x5 =>
                k0 x5 0) (A.rep x4 (R.i .i64 0)) x0 (A.on (A.len x0)) 0)
              | false => (f18_0 x0 (fun x6 =>
                l13_16_0 (fun x7 x8 =>
                  k0 x8 0) x1 (A.rep x4 (R.i .i64 0)) 0 x6 (A.on (A.len x6)) 0)))
            | none => none)
          | none => none)))
def F13_0 {β : Type} (A : Pr) (B : Pk) (N : Nat) (x0 : List R) (x1 : Int) (k0 : List R → Int → Option β) : Option β :=
  G13_0 A B (F17_0 A B N) (F18_0 A B N) (L13_9_0 A B N N) (L13_16_0 A B N N) x0 x1 k0
def P38 : List PT := [(.r (.ro 2)), pI]
def M13_0 {β : Type} (f13_0 : List R → Int → (List R → Int → Option β) → Option β) (a : List T) : Option ((T → List (List T) → Option β) → Option β) :=
  match gTs P38 a [] with
  | some [.l x0, .i x1] => some fun kk => f13_0 x0 x1 (fun x2 x3 => kk (T.tp true [(T.own true 1 x2), (tI x3)]) [])
  | _ => none
theorem e13_0 {β : Type} (A : Pr) (B : Pk) (f17_0 : List R → (Int → Option β) → Option β) (f18_0 : List R → (List R → Option β) → Option β) (l13_9_0 : (List R → Option β) → List R → List R → Int → Int → Option β) (l13_16_0 : (Int → List R → Option β) → Int → List R → Int → List R → Int → Int → Option β) (x0 : List R) (x1 : Int) (kk : T → List (List T) → Option β) :
    uTs P38 [.l x0, .i x1] (fun a _ => bodyK (mkK Tryz.prog A B [(17, M17_0 f17_0), (18, M18_0 f18_0)] [(9, ML13_9 l13_9_0), (16, ML13_16 l13_16_0)] (Hn 13).pt []) Tryz.f13 a kk) = G13_0 A B f17_0 f18_0 l13_9_0 l13_16_0 x0 x1 (fun x2 x3 => kk (T.tp true [(T.own true 1 x2), (tI x3)]) []) := by kernel_rfl
theorem o13_0 {β : Type} (N : Nat) : Snd (β := β) Tryz.prog Hn 13 (M13_0 (F13_0 re rk N)) := by
  intro a h kk r ha hr
  unfold M13_0 at ha
  split at ha
  · rename_i hs
    cases ha
    have hk := via_pat hs ((e13_0 re rk (F17_0 re rk N) (F18_0 re rk N) (L13_9_0 re rk N N) (L13_16_0 re rk N N) _ _ kk).trans hr)
    exact fn_ok (f := 13) (fn := Tryz.f13) (H := Hn) (by kernel_rfl) (show SndAll Tryz.prog Hn [(17, M17_0 (F17_0 re rk N)), (18, M18_0 (F18_0 re rk N))] from ⟨o17_0 N, o18_0 N, trivial⟩) (spots := [.lp X13_9, .lp X13_16]) (by kernel_rfl) ⟨cut_lp (id := 9) i13_9 (ol13_9 N N) (fun s kk => by kernel_rfl), cut_lp (id := 16) i13_16 (ol13_16 N N) (fun s kk => by kernel_rfl), trivial⟩ hk
  · cases ha
def G5_0 {β : Type} (A : Pr) (B : Pk) (f10_1 : List R → List R → (Bool → Option β) → Option β) (f13_0 : List R → Int → (List R → Int → Option β) → Option β) (f14_0 : List R → List R → (Int → Int → Int → Option β) → Option β) (f11_0 : List R → List R → List R → (Bool → Option β) → Option β) (x0 : List R) (x1 : Int) (x2 : List R) (k0 : Bool → Option β) : Option β :=
    match (A.cm .lss x1 0) with
    | true => (k0 true)
    | false => (f10_1 x0 x2 (fun x3 =>
      match (A.bn x3) with
        | true => (k0 true)
        | false => (f13_0 x0 x1 (fun x4 x5 =>
          match (A.cm .neq x5 0) with
            | true => (k0 true)
            | false => (f14_0 x0 x2 (fun x6 x7 x8 =>
              match (A.cm .neq x8 0) with
                | true => (k0 true)
                | false => (f11_0 x0 x4 x2 (fun x9 =>
                  match x9 with
                    | true => (k0 true)
                    | false => (k0 false)))))))))
def F5_0 {β : Type} (A : Pr) (B : Pk) (N : Nat) (x0 : List R) (x1 : Int) (x2 : List R) (k0 : Bool → Option β) : Option β :=
  G5_0 A B (F10_1 A B N) (F13_0 A B N) (F14_0 A B N) (F11_0 A B N) x0 x1 x2 k0
def P39 : List PT := [(.r (.ro 2)), pI, (.r (.ro 1))]
def M5_0 {β : Type} (f5_0 : List R → Int → List R → (Bool → Option β) → Option β) (a : List T) : Option ((T → List (List T) → Option β) → Option β) :=
  match gTs P39 a [] with
  | some [.l x0, .i x1, .l x2] => some fun kk => f5_0 x0 x1 x2 (fun x3 => kk (tB x3) [])
  | _ => none
theorem e5_0 {β : Type} (A : Pr) (B : Pk) (f10_1 : List R → List R → (Bool → Option β) → Option β) (f13_0 : List R → Int → (List R → Int → Option β) → Option β) (f14_0 : List R → List R → (Int → Int → Int → Option β) → Option β) (f11_0 : List R → List R → List R → (Bool → Option β) → Option β) (x0 : List R) (x1 : Int) (x2 : List R) (kk : T → List (List T) → Option β) :
    uTs P39 [.l x0, .i x1, .l x2] (fun a _ => bodyK (mkK Tryz.prog A B [(9, M9_0), (10, M10_1 f10_1), (13, M13_0 f13_0), (14, M14_0 f14_0), (11, M11_0 f11_0)] [] (Hn 5).pt []) Tryz.f5 a kk) = G5_0 A B f10_1 f13_0 f14_0 f11_0 x0 x1 x2 (fun x3 => kk (tB x3) []) := by kernel_rfl
theorem o5_0 {β : Type} (N : Nat) : Snd (β := β) Tryz.prog Hn 5 (M5_0 (F5_0 re rk N)) := by
  intro a h kk r ha hr
  unfold M5_0 at ha
  split at ha
  · rename_i hs
    cases ha
    have hk := via_pat hs ((e5_0 re rk (F10_1 re rk N) (F13_0 re rk N) (F14_0 re rk N) (F11_0 re rk N) _ _ _ kk).trans hr)
    exact fn_ok (f := 5) (fn := Tryz.f5) (H := Hn) (by kernel_rfl) (show SndAll Tryz.prog Hn [(9, M9_0), (10, M10_1 (F10_1 re rk N)), (13, M13_0 (F13_0 re rk N)), (14, M14_0 (F14_0 re rk N)), (11, M11_0 (F11_0 re rk N))] from ⟨o9_0 N, o10_1 N, o13_0 N, o14_0 N, o11_0 N, trivial⟩) (spots := []) (by kernel_rfl) trivial hk
  · cases ha
end
