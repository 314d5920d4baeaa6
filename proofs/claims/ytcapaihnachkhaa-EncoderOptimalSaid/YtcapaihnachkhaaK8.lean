/-
  The functions' trees of EncoderOptimal, printed by a program of ours.
-/
import Derived.Test.YtcapaihnachkhaaK7
set_option linter.unusedVariables false
set_option maxRecDepth 100000
namespace Go.Proofs.Ytcapaihnachkhaa
open Go.Os
section
abbrev Q3 (β : Type) := List R → List R → List R → List R → List R → List R → Int → Int → Option β
noncomputable def X10_8 : Code := atF Try.f10 [true, true, true, true, true, false, true, false, false]
theorem i10_8 : firstReg X10_8 = 8 := by kernel_rfl
def GL10_8_0 {β : Type} (A : Pr) (B : Pk) (l10_8_0 : (List R → List R → List R → List R → List R → Option β) → Q3 β) (k0 : List R → List R → List R → List R → List R → Option β) (x0 x1 x2 x3 x4 x5 : List R) (x6 x7 : Int) : Option β :=
    match (A.cm .lss x7 x6) with
    | true => (match (A.ix x7 (A.len x5)) with
      | some x8 => (match (B.okE [(Sh.sl 1 (Sh.i .i64)), (Sh.sl 1 (Sh.i .i64))] true x5 x8) with
        | true => (match (A.cm .lss x7 (A.on (A.len x2))) with
          | true => (match (A.ix x7 (A.len x2)) with
            | some x9 => (match (B.okE [(Sh.i .u8)] false x2 x9) with
              | true => (match (A.nz (A.on (A.len (B.cl x5 x8 0)))) with
                | true => none
                | false => (match (A.small (A.len (A.app x4 [(R.i .i64 (A.ar .rem .i64 (A.cv .i64 (B.ci x2 x9 0)) (A.on (A.len (B.cl x5 x8 0)))))])) 8) with
                  | true => (l10_8_0 k0 x0 x1 x2 x3 (A.app x4 [(R.i .i64 (A.ar .rem .i64 (A.cv .i64 (B.ci x2 x9 0)) (A.on (A.len (B.cl x5 x8 0)))))]) x5 x6 (A.ar .add .i64 x7 1))
                  | false => none))
              | false => none)
            | none => none)
          | false => (match (A.small (A.len (A.app x4 [(R.i .i64 0)])) 8) with
            | true => (l10_8_0 k0 x0 x1 x2 x3 (A.app x4 [(R.i .i64 0)]) x5 x6 (A.ar .add .i64 x7 1))
            | false => none))
        | false => none)
      | none => none)
    | false => (k0 x0 x1 x2 x3 x4)
def L10_8_0 {β : Type} (A : Pr) (B : Pk) (N : Nat) : Nat → (List R → List R → List R → List R → List R → Option β) → Q3 β
  | 0, _, _, _, _, _, _, _, _, _ => none
  | n + 1, k0, x0, x1, x2, x3, x4, x5, x6, x7 =>
    GL10_8_0 A B (L10_8_0 A B N n) k0 x0 x1 x2 x3 x4 x5 x6 x7
def P67 : List PT := [(.r (.ro 2)), (.r (.ro 1)), (.r (.ro 1)), .us 4, (.own false 1), .us 1, (.own true 1), .us 110]
def S67 (x0 x1 x2 x3 x4 : List R) : List T := ((T.r (R.ro 2 x0)) :: (T.r (R.ro 1 x1)) :: (T.r (R.ro 1 x2)) :: T.u :: T.u :: T.u :: T.u :: (T.own false 1 x3) :: T.u :: (T.own true 1 x4) :: T.u :: T.u :: T.u :: T.u :: T.u :: T.u :: T.u :: T.u :: T.u :: T.u :: T.u :: T.u :: T.u :: T.u :: T.u :: T.u :: T.u :: T.u :: T.u :: T.u :: T.u :: T.u :: T.u :: T.u :: T.u :: T.u :: T.u :: T.u :: T.u :: T.u :: T.u :: T.u :: T.u :: T.u :: T.u :: T.u :: T.u :: T.u :: T.u :: T.u :: T.u :: T.u :: T.u :: T.u :: T.u :: T.u :: T.u :: T.u :: T.u :: T.u :: T.u :: T.u :: T.u :: T.u :: T.u :: T.u :: T.u :: T.u :: T.u :: T.u :: T.u :: T.u :: T.u :: T.u :: T.u :: T.u :: T.u :: T.u :: T.u :: T.u :: T.u :: T.u :: T.u :: T.u :: T.u :: T.u :: T.u :: T.u :: T.u :: T.u :: T.u :: T.u :: T.u :: T.u :: T.u :: T.u :: T.u :: T.u :: T.u :: T.u :: T.u :: T.u :: T.u :: T.u :: T.u :: T.u :: T.u :: T.u :: T.u :: T.u :: T.u :: T.u :: T.u :: T.u :: T.u :: T.u :: T.u :: T.u :: T.u :: T.u :: [])
def P68 : List PT := [(.r (.ro 2)), (.r (.ro 1)), (.r (.ro 1)), .us 4, (.own false 1), .us 1, (.own true 1), .us 36, (.r (.ro 2)), pI, pI, .us 71]
noncomputable def ML10_8 {β : Type} (l10_8_0 : (List R → List R → List R → List R → List R → Option β) → Q3 β) (s : List T) : Option ((Ex → List T → Option β) → Option β) :=
  match gTs P68 (clean ((Hn 10).lp 8).1 s) [] with
  | some [.l x0, .l x1, .l x2, .l x3, .l x4, .l x5, .i x6, .i x7] => some fun kk => l10_8_0 (fun x8 x9 xa xb xc => kk (Ex.ex 0) (S67 x8 x9 xa xb xc)) x0 x1 x2 x3 x4 x5 x6 x7
  | _ => none
theorem e10_8_0 {β : Type} (A : Pr) (B : Pk) (l10_8_0 : (List R → List R → List R → List R → List R → Option β) → Q3 β) (x0 x1 x2 x3 x4 x5 : List R) (x6 x7 : Int) (kk : Ex → List T → Option β) :
    uTs P68 [.l x0, .l x1, .l x2, .l x3, .l x4, .l x5, .i x6, .i x7] (fun s _ => evK (mkK Try.prog A B [] [] (Hn 10).pt []) X10_8 s (fun e s' => match e with
      | .nm => (match ML10_8 l10_8_0 s' with | some h => h kk | none => none)
      | .ex m => kk (.ex m) (clean ((Hn 10).lp (firstReg X10_8)).2 s')
      | .rt => kk .rt (clean ((Hn 10).lp (firstReg X10_8)).2 s'))) = GL10_8_0 A B l10_8_0 (fun x8 x9 xa xb xc => kk (Ex.ex 0) (S67 x8 x9 xa xb xc)) x0 x1 x2 x3 x4 x5 x6 x7 := by kernel_rfl
theorem ol10_8 {β : Type} (N : Nat) : ∀ n, SndL (β := β) Try.prog Hn (Hn 10) X10_8 (ML10_8 (L10_8_0 re rk N n))
  | 0 => by
    intro s h kk r ha hr
    unfold ML10_8 at ha
    split at ha
    · cases ha; cases hr
    · cases ha
  | n + 1 => by
    have ih := ol10_8 (β := β) N n
    intro s h kk r ha hr
    unfold ML10_8 at ha
    split at ha
    · rename_i hs
      cases ha
      have hk := via_pat hs ((e10_8_0 re rk (L10_8_0 re rk N n) _ _ _ _ _ _ _ _ kk).trans hr)
      exact round_ok (show SndAll Try.prog Hn [] from trivial) (spots := []) (by kernel_rfl) trivial ih (hd := clean ((Hn 10).lp 8).1 s) (by rw [i10_8]) hk
    · cases ha
noncomputable def X30_7 : Code := atF Try.f30 [true, true, true, false, true, false, false]
theorem i30_7 : firstReg X30_7 = 7 := by kernel_rfl
def GL30_7_0 {β : Type} (A : Pr) (B : Pk) (l30_7_0 : (List R → Int → Int → Int → Option β) → (List R → Int → Int → Option β) → List R → Int → Int → List R → Int → Int → Option β) (k0 : List R → Int → Int → Int → Option β) (k1 : List R → Int → Int → Option β) (x0 : List R) (x1 x2 : Int) (x3 : List R) (x4 x5 : Int) : Option β :=
    match (A.cm .lss x5 x4) with
    | true => (match (A.ix x5 (A.len x3)) with
      | some x6 => (match (B.okE [(Sh.sl 1 (Sh.i .i64)), (Sh.sl 1 (Sh.i .i64))] true x3 x6) with
        | true => (match (A.ix x5 (A.len x0)) with
          | some x7 => (match (B.okE [(Sh.i .i64)] false x0 x7) with
            | true => (match (A.cm .lss (B.ci x0 x7 0) 0) with
              | true => (k0 x0 0 0 2)
              | false => (match (A.ix x5 (A.len x0)) with
                | some x8 => (match (B.okE [(Sh.i .i64)] false x0 x8) with
                  | true => (match (A.cm .geq (B.ci x0 x8 0) (A.on (A.len (B.cl x3 x6 0)))) with
                    | true => (k0 x0 0 0 2)
                    | false => (match (A.ix x5 (A.len x0)) with
                      | some x9 => (match (B.okE [(Sh.i .i64)] false x0 x9) with
                        | true => (match (A.ix (B.ci x0 x9 0) (A.len (B.cl x3 x6 0))) with
                          | some xa => (match (B.okE [(Sh.i .i64)] false (B.cl x3 x6 0) xa) with
                            | true => (match (A.ix x5 (A.len x0)) with
                              | some xb => (match (B.okE [(Sh.i .i64)] false x0 xb) with
                                | true => (match (A.ix (B.ci x0 xb 0) (A.len (B.cl x3 x6 1))) with
                                  | some xc => (match (B.okE [(Sh.i .i64)] false (B.cl x3 x6 1) xc) with
                                    | true => (l30_7_0 k0 k1 x0 (A.ar .add .i64 x1 (B.ci (B.cl x3 x6 0) xa 0)) (A.ar .add .i64 x2 (B.ci (B.cl x3 x6 1) xc 0)) x3 x4 (A.ar .add .i64 x5 1))
                                    | false => none)
                                  | none => none)
                                | false => none)
                              | none => none)
                            | false => none)
                          | none => none)
                        | false => none)
                      | none => none))
                  | false => none)
                | none => none))
            | false => none)
          | none => none)
        | false => none)
      | none => none)
    | false => (k1 x0 x1 x2)
def L30_7_0 {β : Type} (A : Pr) (B : Pk) (N : Nat) : Nat → (List R → Int → Int → Int → Option β) → (List R → Int → Int → Option β) → List R → Int → Int → List R → Int → Int → Option β
  | 0, _, _, _, _, _, _, _, _ => none
  | n + 1, k0, k1, x0, x1, x2, x3, x4, x5 =>
    GL30_7_0 A B (L30_7_0 A B N n) k0 k1 x0 x1 x2 x3 x4 x5
def P69 : List PT := [.us 1, (.r (.ro 1)), .us 2, pI, pI, pI, .us 58]
def S69 (x0 : List R) (x1 x2 x3 : Int) : List T := (T.u :: (T.r (R.ro 1 x0)) :: T.u :: T.u :: (tI x1) :: (tI x2) :: (tI x3) :: T.u :: T.u :: T.u :: T.u :: T.u :: T.u :: T.u :: T.u :: T.u :: T.u :: T.u :: T.u :: T.u :: T.u :: T.u :: T.u :: T.u :: T.u :: T.u :: T.u :: T.u :: T.u :: T.u :: T.u :: T.u :: T.u :: T.u :: T.u :: T.u :: T.u :: T.u :: T.u :: T.u :: T.u :: T.u :: T.u :: T.u :: T.u :: T.u :: T.u :: T.u :: T.u :: T.u :: T.u :: T.u :: T.u :: T.u :: T.u :: T.u :: T.u :: T.u :: T.u :: T.u :: T.u :: T.u :: T.u :: T.u :: T.u :: [])
def P70 : List PT := [.us 1, (.r (.ro 1)), .us 2, pI, pI, .us 59]
def S70 (x0 : List R) (x1 x2 : Int) : List T := (T.u :: (T.r (R.ro 1 x0)) :: T.u :: T.u :: (tI x1) :: (tI x2) :: T.u :: T.u :: T.u :: T.u :: T.u :: T.u :: T.u :: T.u :: T.u :: T.u :: T.u :: T.u :: T.u :: T.u :: T.u :: T.u :: T.u :: T.u :: T.u :: T.u :: T.u :: T.u :: T.u :: T.u :: T.u :: T.u :: T.u :: T.u :: T.u :: T.u :: T.u :: T.u :: T.u :: T.u :: T.u :: T.u :: T.u :: T.u :: T.u :: T.u :: T.u :: T.u :: T.u :: T.u :: T.u :: T.u :: T.u :: T.u :: T.u :: T.u :: T.u :: T.u :: T.u :: T.u :: T.u :: T.u :: T.u :: T.u :: T.u :: [])
def P71 : List PT := [.us 1, (.r (.ro 1)), .us 2, pI, pI, .us 14, (.r (.ro 2)), pI, pI, .us 42]
noncomputable def ML30_7 {β : Type} (l30_7_0 : (List R → Int → Int → Int → Option β) → (List R → Int → Int → Option β) → List R → Int → Int → List R → Int → Int → Option β) (s : List T) : Option ((Ex → List T → Option β) → Option β) :=
  match gTs P71 (clean ((Hn 30).lp 7).1 s) [] with
  | some [.l x0, .i x1, .i x2, .l x3, .i x4, .i x5] => some fun kk => l30_7_0 (fun x6 x7 x8 x9 => kk Ex.rt (S69 x6 x7 x8 x9)) (fun xa xb xc => kk (Ex.ex 0) (S70 xa xb xc)) x0 x1 x2 x3 x4 x5
  | _ => none
theorem e30_7_0 {β : Type} (A : Pr) (B : Pk) (l30_7_0 : (List R → Int → Int → Int → Option β) → (List R → Int → Int → Option β) → List R → Int → Int → List R → Int → Int → Option β) (x0 : List R) (x1 x2 : Int) (x3 : List R) (x4 x5 : Int) (kk : Ex → List T → Option β) :
    uTs P71 [.l x0, .i x1, .i x2, .l x3, .i x4, .i x5] (fun s _ => evK (mkK Try.prog A B [] [] (Hn 30).pt []) X30_7 s (fun e s' => match e with
      | .nm => (match ML30_7 l30_7_0 s' with | some h => h kk | none => none)
      | .ex m => kk (.ex m) (clean ((Hn 30).lp (firstReg X30_7)).2 s')
      | .rt => kk .rt (clean ((Hn 30).lp (firstReg X30_7)).2 s'))) = GL30_7_0 A B l30_7_0 (fun x6 x7 x8 x9 => kk Ex.rt (S69 x6 x7 x8 x9)) (fun xa xb xc => kk (Ex.ex 0) (S70 xa xb xc)) x0 x1 x2 x3 x4 x5 := by kernel_rfl
theorem ol30_7 {β : Type} (N : Nat) : ∀ n, SndL (β := β) Try.prog Hn (Hn 30) X30_7 (ML30_7 (L30_7_0 re rk N n))
  | 0 => by
    intro s h kk r ha hr
    unfold ML30_7 at ha
    split at ha
    · cases ha; cases hr
    · cases ha
  | n + 1 => by
    have ih := ol30_7 (β := β) N n
    intro s h kk r ha hr
    unfold ML30_7 at ha
    split at ha
    · rename_i hs
      cases ha
      have hk := via_pat hs ((e30_7_0 re rk (L30_7_0 re rk N n) _ _ _ _ _ _ kk).trans hr)
      exact round_ok (show SndAll Try.prog Hn [] from trivial) (spots := []) (by kernel_rfl) trivial ih (hd := clean ((Hn 30).lp 7).1 s) (by rw [i30_7]) hk
    · cases ha
def G30_0 {β : Type} (A : Pr) (B : Pk) (f55_0 : List R → (Int → Option β) → Option β) (l30_7_0 : (List R → Int → Int → Int → Option β) → (List R → Int → Int → Option β) → List R → Int → Int → List R → Int → Int → Option β) (x0 x1 : List R) (k0 : Int → Int → Int → Option β) : Option β :=
    f55_0 x0 (fun x2 =>
    match (A.cm .neq x2 0) with
      | true => (k0 0 0 x2)
      | false => (match (A.cm .neq (A.on (A.len x1)) (A.on (A.len x0))) with
        | true => (k0 0 0 4)
        | false => (l30_7_0 (fun x3 x4 x5 x6 =>
          k0 x4 x5 x6) (fun x7 x8 x9 =>
          k0 x8 x9 0) x1 0 0 x0 (A.on (A.len x0)) 0)))
def F30_0 {β : Type} (A : Pr) (B : Pk) (N : Nat) (x0 x1 : List R) (k0 : Int → Int → Int → Option β) : Option β :=
  G30_0 A B (F55_0 A B N) (L30_7_0 A B N N) x0 x1 k0
def M30_0 {β : Type} (f30_0 : List R → List R → (Int → Int → Int → Option β) → Option β) (a : List T) : Option ((T → List (List T) → Option β) → Option β) :=
  match gTs P3 a [] with
  | some [.l x0, .l x1] => some fun kk => f30_0 x0 x1 (fun x2 x3 x4 => kk (T.tp true [(tI x2), (tI x3), (tI x4)]) [])
  | _ => none
theorem e30_0 {β : Type} (A : Pr) (B : Pk) (f55_0 : List R → (Int → Option β) → Option β) (l30_7_0 : (List R → Int → Int → Int → Option β) → (List R → Int → Int → Option β) → List R → Int → Int → List R → Int → Int → Option β) (x0 x1 : List R) (kk : T → List (List T) → Option β) :
    uTs P3 [.l x0, .l x1] (fun a _ => bodyK (mkK Try.prog A B [(55, M55_0 f55_0)] [(7, ML30_7 l30_7_0)] (Hn 30).pt []) Try.f30 a kk) = G30_0 A B f55_0 l30_7_0 x0 x1 (fun x2 x3 x4 => kk (T.tp true [(tI x2), (tI x3), (tI x4)]) []) := by kernel_rfl
theorem o30_0 {β : Type} (N : Nat) : Snd (β := β) Try.prog Hn 30 (M30_0 (F30_0 re rk N)) := by
  intro a h kk r ha hr
  unfold M30_0 at ha
  split at ha
  · rename_i hs
    cases ha
    have hk := via_pat hs ((e30_0 re rk (F55_0 re rk N) (L30_7_0 re rk N N) _ _ kk).trans hr)
    exact fn_ok (f := 30) (fn := Try.f30) (H := Hn) (by kernel_rfl) (show SndAll Try.prog Hn [(55, M55_0 (F55_0 re rk N))] from ⟨o55_0 N, trivial⟩) (spots := [.lp X30_7]) (by kernel_rfl) ⟨cut_lp (id := 7) i30_7 (ol30_7 N N) (fun s kk => by kernel_rfl), trivial⟩ hk
  · cases ha
noncomputable def X10_19 : Code := atF Try.f10 [true, true, true, true, true, true, true, true, false, true, false, false]
theorem i10_19 : firstReg X10_19 = 19 := by kernel_rfl
def GL10_19_0 {β : Type} (A : Pr) (B : Pk) (f30_0 : List R → List R → (Int → Int → Int → Option β) → Option β) (l10_19_0 : (List R → Bool → Option β) → (List R → Option β) → List R → List R → Int → Int → List R → Int → Int → Option β) (k0 : List R → Bool → Option β) (k1 : List R → Option β) (x0 x1 : List R) (x2 x3 : Int) (x4 : List R) (x5 x6 : Int) : Option β :=
    match (A.cm .lss x6 x5) with
    | true => (match (A.ix x6 (A.len x4)) with
      | some x7 => (match (B.okE [(Sh.i .i64)] false x4 x7) with
        | true => (match (A.ix x6 (A.len x1)) with
          | some x8 => (match (B.okC [(Sh.sl 1 (Sh.i .i64))] x1 x8 0) with
            | true => (f30_0 x0 (B.cl x1 x8 0) (fun x9 xa xb =>
              match (A.cm .neq xb 0) with
                | true => (k0 x0 false)
                | false => (match (A.cm .geq (B.ci x4 x7 0) 0) with
                  | true => (match (A.cm .gtr x9 (B.ci x4 x7 0)) with
                    | true => (k0 x0 false)
                    | false => (match (A.cm .leq x2 x9) with
                      | true => (match (A.cm .lss x3 xa) with
                        | true => (k0 x0 false)
                        | false => (l10_19_0 k0 k1 x0 x1 x2 x3 x4 x5 (A.ar .add .i64 x6 1)))
                      | false => (l10_19_0 k0 k1 x0 x1 x2 x3 x4 x5 (A.ar .add .i64 x6 1))))
                  | false => (l10_19_0 k0 k1 x0 x1 x2 x3 x4 x5 (A.ar .add .i64 x6 1)))))
            | false => none)
          | none => none)
        | false => none)
      | none => none)
    | false => (k1 x0)
def L10_19_0 {β : Type} (A : Pr) (B : Pk) (N : Nat) : Nat → (List R → Bool → Option β) → (List R → Option β) → List R → List R → Int → Int → List R → Int → Int → Option β
  | 0, _, _, _, _, _, _, _, _, _ => none
  | n + 1, k0, k1, x0, x1, x2, x3, x4, x5, x6 =>
    GL10_19_0 A B (F30_0 A B N) (L10_19_0 A B N n) k0 k1 x0 x1 x2 x3 x4 x5 x6
def P72 : List PT := [(.r (.ro 2)), .us 5, pB, .us 113]
def S72 (x0 : List R) (x1 : Bool) : List T := ((T.r (R.ro 2 x0)) :: T.u :: T.u :: T.u :: T.u :: T.u :: (tB x1) :: T.u :: T.u :: T.u :: T.u :: T.u :: T.u :: T.u :: T.u :: T.u :: T.u :: T.u :: T.u :: T.u :: T.u :: T.u :: T.u :: T.u :: T.u :: T.u :: T.u :: T.u :: T.u :: T.u :: T.u :: T.u :: T.u :: T.u :: T.u :: T.u :: T.u :: T.u :: T.u :: T.u :: T.u :: T.u :: T.u :: T.u :: T.u :: T.u :: T.u :: T.u :: T.u :: T.u :: T.u :: T.u :: T.u :: T.u :: T.u :: T.u :: T.u :: T.u :: T.u :: T.u :: T.u :: T.u :: T.u :: T.u :: T.u :: T.u :: T.u :: T.u :: T.u :: T.u :: T.u :: T.u :: T.u :: T.u :: T.u :: T.u :: T.u :: T.u :: T.u :: T.u :: T.u :: T.u :: T.u :: T.u :: T.u :: T.u :: T.u :: T.u :: T.u :: T.u :: T.u :: T.u :: T.u :: T.u :: T.u :: T.u :: T.u :: T.u :: T.u :: T.u :: T.u :: T.u :: T.u :: T.u :: T.u :: T.u :: T.u :: T.u :: T.u :: T.u :: T.u :: T.u :: T.u :: T.u :: T.u :: T.u :: T.u :: T.u :: T.u :: T.u :: [])
def P73 : List PT := [(.r (.ro 2)), .us 119]
def S73 (x0 : List R) : List T := ((T.r (R.ro 2 x0)) :: T.u :: T.u :: T.u :: T.u :: T.u :: T.u :: T.u :: T.u :: T.u :: T.u :: T.u :: T.u :: T.u :: T.u :: T.u :: T.u :: T.u :: T.u :: T.u :: T.u :: T.u :: T.u :: T.u :: T.u :: T.u :: T.u :: T.u :: T.u :: T.u :: T.u :: T.u :: T.u :: T.u :: T.u :: T.u :: T.u :: T.u :: T.u :: T.u :: T.u :: T.u :: T.u :: T.u :: T.u :: T.u :: T.u :: T.u :: T.u :: T.u :: T.u :: T.u :: T.u :: T.u :: T.u :: T.u :: T.u :: T.u :: T.u :: T.u :: T.u :: T.u :: T.u :: T.u :: T.u :: T.u :: T.u :: T.u :: T.u :: T.u :: T.u :: T.u :: T.u :: T.u :: T.u :: T.u :: T.u :: T.u :: T.u :: T.u :: T.u :: T.u :: T.u :: T.u :: T.u :: T.u :: T.u :: T.u :: T.u :: T.u :: T.u :: T.u :: T.u :: T.u :: T.u :: T.u :: T.u :: T.u :: T.u :: T.u :: T.u :: T.u :: T.u :: T.u :: T.u :: T.u :: T.u :: T.u :: T.u :: T.u :: T.u :: T.u :: T.u :: T.u :: T.u :: T.u :: T.u :: T.u :: T.u :: T.u :: [])
def P74 : List PT := [(.r (.ro 2)), .us 6, (.own false 1), .us 5, pI, pI, .us 65, (.r (.ro 1)), pI, pI, .us 37]
noncomputable def ML10_19 {β : Type} (l10_19_0 : (List R → Bool → Option β) → (List R → Option β) → List R → List R → Int → Int → List R → Int → Int → Option β) (s : List T) : Option ((Ex → List T → Option β) → Option β) :=
  match gTs P74 (clean ((Hn 10).lp 19).1 s) [] with
  | some [.l x0, .l x1, .i x2, .i x3, .l x4, .i x5, .i x6] => some fun kk => l10_19_0 (fun x7 x8 => kk Ex.rt (S72 x7 x8)) (fun x9 => kk (Ex.ex 2) (S73 x9)) x0 x1 x2 x3 x4 x5 x6
  | _ => none
theorem e10_19_0 {β : Type} (A : Pr) (B : Pk) (f30_0 : List R → List R → (Int → Int → Int → Option β) → Option β) (l10_19_0 : (List R → Bool → Option β) → (List R → Option β) → List R → List R → Int → Int → List R → Int → Int → Option β) (x0 x1 : List R) (x2 x3 : Int) (x4 : List R) (x5 x6 : Int) (kk : Ex → List T → Option β) :
    uTs P74 [.l x0, .l x1, .i x2, .i x3, .l x4, .i x5, .i x6] (fun s _ => evK (mkK Try.prog A B [(30, M30_0 f30_0)] [] (Hn 10).pt []) X10_19 s (fun e s' => match e with
      | .nm => (match ML10_19 l10_19_0 s' with | some h => h kk | none => none)
      | .ex m => kk (.ex m) (clean ((Hn 10).lp (firstReg X10_19)).2 s')
      | .rt => kk .rt (clean ((Hn 10).lp (firstReg X10_19)).2 s'))) = GL10_19_0 A B f30_0 l10_19_0 (fun x7 x8 => kk Ex.rt (S72 x7 x8)) (fun x9 => kk (Ex.ex 2) (S73 x9)) x0 x1 x2 x3 x4 x5 x6 := by kernel_rfl
theorem ol10_19 {β : Type} (N : Nat) : ∀ n, SndL (β := β) Try.prog Hn (Hn 10) X10_19 (ML10_19 (L10_19_0 re rk N n))
  | 0 => by
    intro s h kk r ha hr
    unfold ML10_19 at ha
    split at ha
    · cases ha; cases hr
    · cases ha
  | n + 1 => by
    have ih := ol10_19 (β := β) N n
    intro s h kk r ha hr
    unfold ML10_19 at ha
    split at ha
    · rename_i hs
      cases ha
      have hk := via_pat hs ((e10_19_0 re rk (F30_0 re rk N) (L10_19_0 re rk N n) _ _ _ _ _ _ _ kk).trans hr)
      exact round_ok (show SndAll Try.prog Hn [(30, M30_0 (F30_0 re rk N))] from ⟨o30_0 N, trivial⟩) (spots := []) (by kernel_rfl) trivial ih (hd := clean ((Hn 10).lp 19).1 s) (by rw [i10_19]) hk
    · cases ha
def G10_0 {β : Type} (A : Pr) (B : Pk) (f26_0 : List R → List R → (Bool → Option β) → Option β) (f27_0 : List R → List R → (List R → Int → Option β) → Option β) (f30_0 : List R → List R → (Int → Int → Int → Option β) → Option β) (l10_8_0 : (List R → List R → List R → List R → List R → Option β) → Q3 β) (l10_19_0 : (List R → Bool → Option β) → (List R → Option β) → List R → List R → Int → Int → List R → Int → Int → Option β) (x0 x1 x2 : List R) (k0 : Bool → Option β) : Option β :=
    f26_0 x0 x1 (fun x3 =>
    match (A.bn x3) with
      | true => (k0 true)
      | false => (f27_0 x0 x1 (fun x4 x5 =>
        match (A.cm .neq x5 0) with
          | true => (match (A.cm .neq x5 0) with
            | true => (k0 true)
            | false => (k0 false))
          | false => (match (A.cm .neq (A.on (A.len x4)) (A.on (A.len x1))) with
            | true => (match (A.cm .neq x5 0) with
              | true => (k0 true)
              | false => (k0 false))
            | false => (l10_8_0 (fun x6 x7 x8 x9 xa =>
              f30_0 x6 xa (fun xb xc xd =>
                match (A.cm .neq xd 0) with
                  | true => (k0 false)
                  | false => (l10_19_0 (fun xe xf =>
                    k0 xf) (fun xg =>
                    k0 true) x6 x9 xb xc x7 (A.on (A.len x7)) 0))) x0 x1 x2 x4 [] x0 (A.on (A.len x0)) 0)))))
def F10_0 {β : Type} (A : Pr) (B : Pk) (N : Nat) (x0 x1 x2 : List R) (k0 : Bool → Option β) : Option β :=
  G10_0 A B (F26_0 A B N) (F27_0 A B N) (F30_0 A B N) (L10_8_0 A B N N) (L10_19_0 A B N N) x0 x1 x2 k0
def P75 : List PT := [(.r (.ro 2)), (.r (.ro 1)), (.r (.ro 1))]
def M10_0 {β : Type} (f10_0 : List R → List R → List R → (Bool → Option β) → Option β) (a : List T) : Option ((T → List (List T) → Option β) → Option β) :=
  match gTs P75 a [] with
  | some [.l x0, .l x1, .l x2] => some fun kk => f10_0 x0 x1 x2 (fun x3 => kk (tB x3) [])
  | _ => none
theorem e10_0 {β : Type} (A : Pr) (B : Pk) (f26_0 : List R → List R → (Bool → Option β) → Option β) (f27_0 : List R → List R → (List R → Int → Option β) → Option β) (f30_0 : List R → List R → (Int → Int → Int → Option β) → Option β) (l10_8_0 : (List R → List R → List R → List R → List R → Option β) → Q3 β) (l10_19_0 : (List R → Bool → Option β) → (List R → Option β) → List R → List R → Int → Int → List R → Int → Int → Option β) (x0 x1 x2 : List R) (kk : T → List (List T) → Option β) :
    uTs P75 [.l x0, .l x1, .l x2] (fun a _ => bodyK (mkK Try.prog A B [(26, M26_0 f26_0), (23, M23_0), (27, M27_0 f27_0), (30, M30_0 f30_0)] [(8, ML10_8 l10_8_0), (19, ML10_19 l10_19_0)] (Hn 10).pt []) Try.f10 a kk) = G10_0 A B f26_0 f27_0 f30_0 l10_8_0 l10_19_0 x0 x1 x2 (fun x3 => kk (tB x3) []) := by kernel_rfl
theorem o10_0 {β : Type} (N : Nat) : Snd (β := β) Try.prog Hn 10 (M10_0 (F10_0 re rk N)) := by
  intro a h kk r ha hr
  unfold M10_0 at ha
  split at ha
  · rename_i hs
    cases ha
    have hk := via_pat hs ((e10_0 re rk (F26_0 re rk N) (F27_0 re rk N) (F30_0 re rk N) (L10_8_0 re rk N N) (L10_19_0 re rk N N) _ _ _ kk).trans hr)
    exact fn_ok (f := 10) (fn := Try.f10) (H := Hn) (by kernel_rfl) (show SndAll Try.prog Hn [(26, M26_0 (F26_0 re rk N)), (23, M23_0), (27, M27_0 (F27_0 re rk N)), (30, M30_0 (F30_0 re rk N))] from ⟨o26_0 N, o23_0 N, o27_0 N, o30_0 N, trivial⟩) (spots := [.lp X10_8, .lp X10_19]) (by kernel_rfl) ⟨cut_lp (id := 8) i10_8 (ol10_8 N N) (fun s kk => by kernel_rfl), cut_lp (id := 19) i10_19 (ol10_19 N N) (fun s kk => by kernel_rfl), trivial⟩ hk
  · cases ha
end
