/-
  The functions' trees, printed by a program of ours.
-/
import Derived.Test.YthlnfebecphcmaaGreatKa
set_option linter.unusedVariables false
set_option maxRecDepth 100000
namespace Go.Proofs.YthlnfebecphcmaaGreat
open Go.Os
section
noncomputable def ML142_5 {β : Type} (l142_5_0 : (Q9 β) → Q10 β) (s : List T) : Option ((Ex → List T → Option β) → Option β) :=
  match gTs P32 (clean ((Hn 142).lp 5).1 s) [] with
  | some (.i x0 :: .i x1 :: .i x2 :: .i x3 :: .i x4 :: .i x5 :: .i x6 :: .i x7 :: .i x8 :: .i x9 :: .i xa :: .i xb :: .i xc :: .i xd :: .i xe :: .i xf :: .i xg :: .i xh :: .i xi :: .i xj :: .i xk :: .i xl :: .i xm :: .i xn :: .i xo :: .i xp :: .i xq :: .i xr :: .i xs :: .i xt :: .i xu :: .i xv :: .i xw :: .i xx :: .i xy :: .i xz :: .i x10 :: []) => some fun kk => l142_5_0 (fun x11 x12 x13 x14 x15 x16 x17 x18 x19 x1a x1b x1c x1d x1e x1f x1g x1h x1i x1j x1k x1l x1m x1n x1o x1p x1q x1r x1s x1t x1u x1v x1w => kk (Ex.ex 0) (S31 x11 x12 x13 x14 x15 x16 x17 x18 x19 x1a x1b x1c x1d x1e x1f x1g x1h x1i x1j x1k x1l x1m x1n x1o x1p x1q x1r x1s x1t x1u x1v x1w)) x0 x1 x2 x3 x4 x5 x6 x7 x8 x9 xa xb xc xd xe xf xg xh xi xj xk xl xm xn xo xp xq xr xs xt xu xv xw xx xy xz x10
  | _ => none
theorem e142_5_0 {β : Type} (A : Pr) (B : Pk) (f170_0 : Int → Bool → (Int → Option β) → Option β) (l142_5_0 : (Q9 β) → Q10 β) (x0 x1 x2 x3 x4 x5 x6 x7 x8 x9 xa xb xc xd xe xf xg xh xi xj xk xl xm xn xo xp xq xr xs xt xu xv xw xx xy xz x10 : Int) (kk : Ex → List T → Option β) :
    uTs P32 (.i x0 :: .i x1 :: .i x2 :: .i x3 :: .i x4 :: .i x5 :: .i x6 :: .i x7 :: .i x8 :: .i x9 :: .i xa :: .i xb :: .i xc :: .i xd :: .i xe :: .i xf :: .i xg :: .i xh :: .i xi :: .i xj :: .i xk :: .i xl :: .i xm :: .i xn :: .i xo :: .i xp :: .i xq :: .i xr :: .i xs :: .i xt :: .i xu :: .i xv :: .i xw :: .i xx :: .i xy :: .i xz :: .i x10 :: []) (fun s _ => evK (mkK Tryz.prog A B [(170, M170_0 f170_0)] [] (Hn 142).pt []) X142_5 s (fun e s' => match e with
      | .nm => (match ML142_5 l142_5_0 s' with | some h => h kk | none => none)
      | .ex m => kk (.ex m) (clean ((Hn 142).lp (firstReg X142_5)).2 s')
      | .rt => kk .rt (clean ((Hn 142).lp (firstReg X142_5)).2 s'))) = GL142_5_0 A B f170_0 l142_5_0 (fun x11 x12 x13 x14 x15 x16 x17 x18 x19 x1a x1b x1c x1d x1e x1f x1g x1h x1i x1j x1k x1l x1m x1n x1o x1p x1q x1r x1s x1t x1u x1v x1w => kk (Ex.ex 0) (S31 x11 x12 x13 x14 x15 x16 x17 x18 x19 x1a x1b x1c x1d x1e x1f x1g x1h x1i x1j x1k x1l x1m x1n x1o x1p x1q x1r x1s x1t x1u x1v x1w)) x0 x1 x2 x3 x4 x5 x6 x7 x8 x9 xa xb xc xd xe xf xg xh xi xj xk xl xm xn xo xp xq xr xs xt xu xv xw xx xy xz x10 := by kernel_rfl
theorem ol142_5 {β : Type} (N : Nat) : ∀ n, SndL (β := β) Tryz.prog Hn (Hn 142) X142_5 (ML142_5 (L142_5_0 re rk N n))
  | 0 => by
    intro s h kk r ha hr
    unfold ML142_5 at ha
    split at ha
    · cases ha; cases hr
    · cases ha
  | n + 1 => by
    have ih := ol142_5 (β := β) N n
    intro s h kk r ha hr
    unfold ML142_5 at ha
    split at ha
    · rename_i hs
      cases ha
      have hk := via_pat hs ((e142_5_0 re rk (F170_0 re rk N) (L142_5_0 re rk N n) _ _ _ _ _ _ _ _ _ _ _ _ _ _ _ _ _ _ _ _ _ _ _ _ _ _ _ _ _ _ _ _ _ _ _ _ _ kk).trans hr)
      exact round_ok (show SndAll Tryz.prog Hn [(170, M170_0 (F170_0 re rk N))] from ⟨o170_0 N, trivial⟩) (spots := []) (by kernel_rfl) trivial ih (hd := clean ((Hn 142).lp 5).1 s) (by rw [i142_5]) hk
    · cases ha
def G142_0 {β : Type} (A : Pr) (B : Pk) (f55_0 : Int → Int → Int → Int → (Bool → Option β) → Option β) (l142_5_0 : (Q9 β) → Q10 β) (x0 x1 x2 x3 : Int) (k0 : Q11 β) : Option β :=
    f55_0 x0 x1 x2 x3 (fun x4 =>
    match (A.bn x4) with
      | true => (k0 0 0 0 0 0 0 0 0 0 0 0 0 0 0 0 0)
      | false => (l142_5_0 (fun x5 x6 x7 x8 x9 xa xb xc xd xe xf xg xh xi xj xk xl xm xn xo xp xq xr xs xt xu xv xw xx xy xz x10 =>
        k0 xl xm xn xo xp xq xr xs xt xu xv xw xx xy xz x10) x0 x1 x2 x3 0 0 0 0 0 0 0 0 0 0 0 0 0 0 0 0 0 0 0 0 0 0 0 0 0 0 0 0 0 0 0 0 0))
def F142_0 {β : Type} (A : Pr) (B : Pk) (N : Nat) (x0 x1 x2 x3 : Int) (k0 : Q11 β) : Option β :=
  G142_0 A B (F55_0 A B N) (L142_5_0 A B N N) x0 x1 x2 x3 k0
def M142_0 {β : Type} (f142_0 : Int → Int → Int → Int → (Q11 β) → Option β) (a : List T) : Option ((T → List (List T) → Option β) → Option β) :=
  match gTs P0 a [] with
  | some [.i x0, .i x1, .i x2, .i x3] => some fun kk => f142_0 x0 x1 x2 x3 (fun x4 x5 x6 x7 x8 x9 xa xb xc xd xe xf xg xh xi xj => kk (T.r (R.a [(R.i .i64 x4), (R.i .i64 x5), (R.i .i64 x6), (R.i .i64 x7), (R.i .i64 x8), (R.i .i64 x9), (R.i .i64 xa), (R.i .i64 xb), (R.i .i64 xc), (R.i .i64 xd), (R.i .i64 xe), (R.i .i64 xf), (R.i .i64 xg), (R.i .i64 xh), (R.i .i64 xi), (R.i .i64 xj)])) [])
  | _ => none
theorem e142_0 {β : Type} (A : Pr) (B : Pk) (f55_0 : Int → Int → Int → Int → (Bool → Option β) → Option β) (l142_5_0 : (Q9 β) → Q10 β) (x0 x1 x2 x3 : Int) (kk : T → List (List T) → Option β) :
    uTs P0 [.i x0, .i x1, .i x2, .i x3] (fun a _ => bodyK (mkK Tryz.prog A B [(55, M55_0 f55_0)] [(5, ML142_5 l142_5_0)] (Hn 142).pt []) Tryz.f142 a kk) = G142_0 A B f55_0 l142_5_0 x0 x1 x2 x3 (fun x4 x5 x6 x7 x8 x9 xa xb xc xd xe xf xg xh xi xj => kk (T.r (R.a [(R.i .i64 x4), (R.i .i64 x5), (R.i .i64 x6), (R.i .i64 x7), (R.i .i64 x8), (R.i .i64 x9), (R.i .i64 xa), (R.i .i64 xb), (R.i .i64 xc), (R.i .i64 xd), (R.i .i64 xe), (R.i .i64 xf), (R.i .i64 xg), (R.i .i64 xh), (R.i .i64 xi), (R.i .i64 xj)])) []) := by kernel_rfl
theorem o142_0 {β : Type} (N : Nat) : Snd (β := β) Tryz.prog Hn 142 (M142_0 (F142_0 re rk N)) := by
  intro a h kk r ha hr
  unfold M142_0 at ha
  split at ha
  · rename_i hs
    cases ha
    have hk := via_pat hs ((e142_0 re rk (F55_0 re rk N) (L142_5_0 re rk N N) _ _ _ _ kk).trans hr)
    exact fn_ok (f := 142) (fn := Tryz.f142) (H := Hn) (by kernel_rfl) (show SndAll Tryz.prog Hn [(55, M55_0 (F55_0 re rk N))] from ⟨o55_0 N, trivial⟩) (spots := [.lp X142_5]) (by kernel_rfl) ⟨cut_lp (id := 5) i142_5 (ol142_5 N N) (fun s kk => by kernel_rfl), trivial⟩ hk
  · cases ha
def G102_0 {β : Type} (A : Pr) (B : Pk) (f141_0 : Int → Int → (Int → Int → Bool → Option β) → Option β) (f55_0 : Int → Int → Int → Int → (Bool → Option β) → Option β) (f101_0 : Int → Int → Int → Int → Int → Int → (Int → Int → Int → Int → Option β) → Option β) (f142_0 : Int → Int → Int → Int → (Q11 β) → Option β) (x0 x1 x2 x3 x4 x5 : Int) (k0 : Int → Int → Int → Int → Option β) : Option β :=
    f141_0 x5 x4 (fun x6 x7 x8 =>
    match (A.bn x8) with
      | true => (k0 0 0 0 0)
      | false => (f55_0 x0 x1 x2 x3 (fun x9 =>
        match (A.bn x9) with
          | true => (k0 0 0 0 0)
          | false => (match (A.cm .eql x5 0) with
            | true => (f101_0 x0 x1 x2 x3 x4 0 (fun xa xb xc xd =>
              k0 xa xb xc xd))
            | false => (f101_0 x0 x1 x2 x3 x4 (A.ar .add .i64 (A.ar .sub .i64 x4 x6) 1) (fun xe xf xg xh =>
              f142_0 xe xf xg xh (fun xi xj xk xl xm xn xo xp xq xr xs xt xu xv xw xx =>
                match (A.cm .eql x7 0) with
                  | true => (k0 xi xj xk xl)
                  | false => (match (A.cm .eql x7 1) with
                    | true => (k0 xm xn xo xp)
                    | false => (match (A.cm .eql x7 2) with
                      | true => (k0 xq xr xs xt)
                      | false => (match (A.cm .eql x7 3) with
                        | true => (k0 xu xv xw xx)
                        | false => none))))))))))
def F102_0 {β : Type} (A : Pr) (B : Pk) (N : Nat) (x0 x1 x2 x3 x4 x5 : Int) (k0 : Int → Int → Int → Int → Option β) : Option β :=
  G102_0 A B (F141_0 A B N) (F55_0 A B N) (F101_0 A B N) (F142_0 A B N) x0 x1 x2 x3 x4 x5 k0
def M102_0 {β : Type} (f102_0 : Int → Int → Int → Int → Int → Int → (Int → Int → Int → Int → Option β) → Option β) (a : List T) : Option ((T → List (List T) → Option β) → Option β) :=
  match gTs P3 a [] with
  | some [.i x0, .i x1, .i x2, .i x3, .i x4, .i x5] => some fun kk => f102_0 x0 x1 x2 x3 x4 x5 (fun x6 x7 x8 x9 => kk (T.r (R.a [(R.i .i64 x6), (R.i .i64 x7), (R.i .i64 x8), (R.i .i64 x9)])) [])
  | _ => none
theorem e102_0 {β : Type} (A : Pr) (B : Pk) (f141_0 : Int → Int → (Int → Int → Bool → Option β) → Option β) (f55_0 : Int → Int → Int → Int → (Bool → Option β) → Option β) (f101_0 : Int → Int → Int → Int → Int → Int → (Int → Int → Int → Int → Option β) → Option β) (f142_0 : Int → Int → Int → Int → (Q11 β) → Option β) (x0 x1 x2 x3 x4 x5 : Int) (kk : T → List (List T) → Option β) :
    uTs P3 [.i x0, .i x1, .i x2, .i x3, .i x4, .i x5] (fun a _ => bodyK (mkK Tryz.prog A B [(141, M141_0 f141_0), (55, M55_0 f55_0), (101, M101_0 f101_0), (142, M142_0 f142_0)] [] (Hn 102).pt []) Tryz.f102 a kk) = G102_0 A B f141_0 f55_0 f101_0 f142_0 x0 x1 x2 x3 x4 x5 (fun x6 x7 x8 x9 => kk (T.r (R.a [(R.i .i64 x6), (R.i .i64 x7), (R.i .i64 x8), (R.i .i64 x9)])) []) := by kernel_rfl
theorem o102_0 {β : Type} (N : Nat) : Snd (β := β) Tryz.prog Hn 102 (M102_0 (F102_0 re rk N)) := by
  intro a h kk r ha hr
  unfold M102_0 at ha
  split at ha
  · rename_i hs
    cases ha
    have hk := via_pat hs ((e102_0 re rk (F141_0 re rk N) (F55_0 re rk N) (F101_0 re rk N) (F142_0 re rk N) _ _ _ _ _ _ kk).trans hr)
    exact fn_ok (f := 102) (fn := Tryz.f102) (H := Hn) (by kernel_rfl) (show SndAll Tryz.prog Hn [(141, M141_0 (F141_0 re rk N)), (55, M55_0 (F55_0 re rk N)), (101, M101_0 (F101_0 re rk N)), (142, M142_0 (F142_0 re rk N))] from ⟨o141_0 N, o55_0 N, o101_0 N, o142_0 N, trivial⟩) (spots := []) (by kernel_rfl) trivial hk
  · cases ha
noncomputable def X65_7 : Code := atF Tryz.f65 [true, true, false, true, false, false, true, false, false, true, true, false, false]
theorem i65_7 : firstReg X65_7 = 7 := by kernel_rfl
def GL65_7_0 {β : Type} (A : Pr) (B : Pk) (f99_0 : Int → Int → Int → Int → Int → List R → Int → Int → Bool → Bool → Bool → Bool → Bool → Bool → Bool → Bool → List R → Int → Int → Int → (Int → Int → Option β) → Option β) (f102_0 : Int → Int → Int → Int → Int → Int → (Int → Int → Int → Int → Option β) → Option β) (f100_0 : Int → Int → Int → Int → Int → Int → (Int → Option β) → Option β) (l65_7_0 : (Q7 β) → Q8 β) (k0 : Q7 β) (x0 x1 x2 x3 x4 x5 : Int) (x6 : List R) (x7 x8 x9 xa xb : Int) (xc : List R) (xd xe : Int) (xf xg xh xi xj xk xl xm : Bool) (xn : List R) (xo xp xq xr xs xt xu xv xw xx xy xz x10 : Int) : Option β :=
    match (A.cm .leq x10 (A.ar .mul .i64 3 x8)) with
    | true => (match (A.nz 3) with
      | true => none
      | false => (f99_0 x7 x8 x9 xa xb xc xd xe xf xg xh xi xj xk xl xm xn xo xp (A.ar .quo .i64 (A.ar .add .i64 x10 2) 3) (fun x11 x12 =>
        f102_0 xw xx xy xz x8 x10 (fun x13 x14 x15 x16 =>
          f100_0 x13 x14 x15 x16 (A.mn xa (A.ar .sub .i64 x11 (A.mn (A.ar .quo .i64 (A.ar .add .i64 x10 2) 3) 1))) (A.mn xb (A.ar .sub .i64 x12 (A.mn (A.ar .quo .i64 (A.ar .add .i64 x10 2) 3) 1))) (fun x17 =>
            l65_7_0 k0 x0 x1 x2 x3 x4 x5 x6 x7 x8 x9 xa xb xc xd xe xf xg xh xi xj xk xl xm xn xo xp xq xr xs xt (A.mx xu x17) xv xw xx xy xz (A.ar .add .i64 x10 1))))))
    | false => (k0 x0 x1 x2 x3 x4 x5 x6 x7 x8 x9 xa xb xc xd xe xf xg xh xi xj xk xl xm xn xo xp xq xr xs xt xu xv)
def L65_7_0 {β : Type} (A : Pr) (B : Pk) (N : Nat) : Nat → (Q7 β) → Q8 β
  | 0, _, _, _, _, _, _, _, _, _, _, _, _, _, _, _, _, _, _, _, _, _, _, _, _, _, _, _, _, _, _, _, _, _, _, _, _, _, _ => none
  | n + 1, k0, x0, x1, x2, x3, x4, x5, x6, x7, x8, x9, xa, xb, xc, xd, xe, xf, xg, xh, xi, xj, xk, xl, xm, xn, xo, xp, xq, xr, xs, xt, xu, xv, xw, xx, xy, xz, x10 =>
    GL65_7_0 A B (F99_0 A B N) (F102_0 A B N) (F100_0 A B N) (L65_7_0 A B N n) k0 x0 x1 x2 x3 x4 x5 x6 x7 x8 x9 xa xb xc xd xe xf xg xh xi xj xk xl xm xn xo xp xq xr xs xt xu xv xw xx xy xz x10
def P33 : List PT := [.us 3, (.bx [pI, pI, pI, pI, pI, pI, (.r (.ro 4))]), (.bx [pI, pI, pI, pI, pI, (.r (.ro 2)), pI, pI, pB, pB, pB, pB, pB, pB, pB, pB, (.r (.ro 1)), pI, pI]), (.bx [pI, pI, pI, pI]), .us 1, pI, pI, .us 63]
def S33 (x0 x1 x2 x3 x4 x5 : Int) (x6 : List R) (x7 x8 x9 xa xb : Int) (xc : List R) (xd xe : Int) (xf xg xh xi xj xk xl xm : Bool) (xn : List R) (xo xp xq xr xs xt xu xv : Int) : List T := (T.u :: T.u :: T.u :: (T.bx [(tI x0), (tI x1), (tI x2), (tI x3), (tI x4), (tI x5), (T.r (R.ro 4 x6))]) :: (T.bx [(tI x7), (tI x8), (tI x9), (tI xa), (tI xb), (T.r (R.ro 2 xc)), (tI xd), (tI xe), (tB xf), (tB xg), (tB xh), (tB xi), (tB xj), (tB xk), (tB xl), (tB xm), (T.r (R.ro 1 xn)), (tI xo), (tI xp)]) :: (T.bx [(tI xq), (tI xr), (tI xs), (tI xt)]) :: T.u :: (tI xu) :: (tI xv) :: T.u :: T.u :: T.u :: T.u :: T.u :: T.u :: T.u :: T.u :: T.u :: T.u :: T.u :: T.u :: T.u :: T.u :: T.u :: T.u :: T.u :: T.u :: T.u :: T.u :: T.u :: T.u :: T.u :: T.u :: T.u :: T.u :: T.u :: T.u :: T.u :: T.u :: T.u :: T.u :: T.u :: T.u :: T.u :: T.u :: T.u :: T.u :: T.u :: T.u :: T.u :: T.u :: T.u :: T.u :: T.u :: T.u :: T.u :: T.u :: T.u :: T.u :: T.u :: T.u :: T.u :: T.u :: T.u :: T.u :: T.u :: T.u :: T.u :: T.u :: T.u :: T.u :: T.u :: [])
def P34 : List PT := [.us 3, (.bx [pI, pI, pI, pI, pI, pI, (.r (.ro 4))]), (.bx [pI, pI, pI, pI, pI, (.r (.ro 2)), pI, pI, pB, pB, pB, pB, pB, pB, pB, pB, (.r (.ro 1)), pI, pI]), (.bx [pI, pI, pI, pI]), .us 1, pI, pI, (.bx [pI, pI, pI, pI]), pI, .us 61]
noncomputable def ML65_7 {β : Type} (l65_7_0 : (Q7 β) → Q8 β) (s : List T) : Option ((Ex → List T → Option β) → Option β) :=
  match gTs P34 (clean ((Hn 65).lp 7).1 s) [] with
  | some (.i x0 :: .i x1 :: .i x2 :: .i x3 :: .i x4 :: .i x5 :: .l x6 :: .i x7 :: .i x8 :: .i x9 :: .i xa :: .i xb :: .l xc :: .i xd :: .i xe :: .b xf :: .b xg :: .b xh :: .b xi :: .b xj :: .b xk :: .b xl :: .b xm :: .l xn :: .i xo :: .i xp :: .i xq :: .i xr :: .i xs :: .i xt :: .i xu :: .i xv :: .i xw :: .i xx :: .i xy :: .i xz :: .i x10 :: []) => some fun kk => l65_7_0 (fun x11 x12 x13 x14 x15 x16 x17 x18 x19 x1a x1b x1c x1d x1e x1f x1g x1h x1i x1j x1k x1l x1m x1n x1o x1p x1q x1r x1s x1t x1u x1v x1w => kk (Ex.ex 2) (S33 x11 x12 x13 x14 x15 x16 x17 x18 x19 x1a x1b x1c x1d x1e x1f x1g x1h x1i x1j x1k x1l x1m x1n x1o x1p x1q x1r x1s x1t x1u x1v x1w)) x0 x1 x2 x3 x4 x5 x6 x7 x8 x9 xa xb xc xd xe xf xg xh xi xj xk xl xm xn xo xp xq xr xs xt xu xv xw xx xy xz x10
  | _ => none
theorem e65_7_0 {β : Type} (A : Pr) (B : Pk) (f99_0 : Int → Int → Int → Int → Int → List R → Int → Int → Bool → Bool → Bool → Bool → Bool → Bool → Bool → Bool → List R → Int → Int → Int → (Int → Int → Option β) → Option β) (f102_0 : Int → Int → Int → Int → Int → Int → (Int → Int → Int → Int → Option β) → Option β) (f100_0 : Int → Int → Int → Int → Int → Int → (Int → Option β) → Option β) (l65_7_0 : (Q7 β) → Q8 β) (x0 x1 x2 x3 x4 x5 : Int) (x6 : List R) (x7 x8 x9 xa xb : Int) (xc : List R) (xd xe : Int) (xf xg xh xi xj xk xl xm : Bool) (xn : List R) (xo xp xq xr xs xt xu xv xw xx xy xz x10 : Int) (kk : Ex → List T → Option β) :
    uTs P34 (.i x0 :: .i x1 :: .i x2 :: .i x3 :: .i x4 :: .i x5 :: .l x6 :: .i x7 :: .i x8 :: .i x9 :: .i xa :: .i xb :: .l xc :: .i xd :: .i xe :: .b xf :: .b xg :: .b xh :: .b xi :: .b xj :: .b xk :: .b xl :: .b xm :: .l xn :: .i xo :: .i xp :: .i xq :: .i xr :: .i xs :: .i xt :: .i xu :: .i xv :: .i xw :: .i xx :: .i xy :: .i xz :: .i x10 :: []) (fun s _ => evK (mkK Tryz.prog A B [(99, M99_0 f99_0), (102, M102_0 f102_0), (100, M100_0 f100_0)] [] (Hn 65).pt []) X65_7 s (fun e s' => match e with
      | .nm => (match ML65_7 l65_7_0 s' with | some h => h kk | none => none)
      | .ex m => kk (.ex m) (clean ((Hn 65).lp (firstReg X65_7)).2 s')
      | .rt => kk .rt (clean ((Hn 65).lp (firstReg X65_7)).2 s'))) = GL65_7_0 A B f99_0 f102_0 f100_0 l65_7_0 (fun x11 x12 x13 x14 x15 x16 x17 x18 x19 x1a x1b x1c x1d x1e x1f x1g x1h x1i x1j x1k x1l x1m x1n x1o x1p x1q x1r x1s x1t x1u x1v x1w => kk (Ex.ex 2) (S33 x11 x12 x13 x14 x15 x16 x17 x18 x19 x1a x1b x1c x1d x1e x1f x1g x1h x1i x1j x1k x1l x1m x1n x1o x1p x1q x1r x1s x1t x1u x1v x1w)) x0 x1 x2 x3 x4 x5 x6 x7 x8 x9 xa xb xc xd xe xf xg xh xi xj xk xl xm xn xo xp xq xr xs xt xu xv xw xx xy xz x10 := by kernel_rfl
theorem ol65_7 {β : Type} (N : Nat) : ∀ n, SndL (β := β) Tryz.prog Hn (Hn 65) X65_7 (ML65_7 (L65_7_0 re rk N n))
  | 0 => by
    intro s h kk r ha hr
    unfold ML65_7 at ha
    split at ha
    · cases ha; cases hr
    · cases ha
  | n + 1 => by
    have ih := ol65_7 (β := β) N n
    intro s h kk r ha hr
    unfold ML65_7 at ha
    split at ha
    · rename_i hs
      cases ha
      have hk := via_pat hs ((e65_7_0 re rk (F99_0 re rk N) (F102_0 re rk N) (F100_0 re rk N) (L65_7_0 re rk N n) _ _ _ _ _ _ _ _ _ _ _ _ _ _ _ _ _ _ _ _ _ _ _ _ _ _ _ _ _ _ _ _ _ _ _ _ _ kk).trans hr)
      exact round_ok (show SndAll Tryz.prog Hn [(99, M99_0 (F99_0 re rk N)), (102, M102_0 (F102_0 re rk N)), (100, M100_0 (F100_0 re rk N))] from ⟨o99_0 N, o102_0 N, o100_0 N, trivial⟩) (spots := []) (by kernel_rfl) trivial ih (hd := clean ((Hn 65).lp 7).1 s) (by rw [i65_7]) hk
    · cases ha
noncomputable def X65_3 : Code := atF Tryz.f65 [true, true, false, true, false, false]
theorem i65_3 : firstReg X65_3 = 3 := by kernel_rfl
def GL65_3_0 {β : Type} (A : Pr) (B : Pk) (f58_0 : Int → Int → Int → Int → Int → Int → (Int → Int → Int → Int → Option β) → Option β) (l65_7_0 : (Q7 β) → Q8 β) (l65_3_0 : (Int → Option β) → Q7 β) (k0 : Int → Option β) (x0 x1 x2 x3 x4 x5 : Int) (x6 : List R) (x7 x8 x9 xa xb : Int) (xc : List R) (xd xe : Int) (xf xg xh xi xj xk xl xm : Bool) (xn : List R) (xo xp xq xr xs xt xu xv : Int) : Option β :=
    match (A.cm .lss xv (A.on (A.len x6))) with
    | true => (match (A.ix xv (A.len x6)) with
      | some xw => (match (B.okE [(Sh.i .i64), Sh.b, (Sh.i .i64), (Sh.i .i64)] true x6 xw) with
        | true => (match (A.ix xv (A.len x6)) with
          | some xx => (match (B.okE [(Sh.i .i64), Sh.b, (Sh.i .i64), (Sh.i .i64)] true x6 xx) with
            | true => (f58_0 xq xr xs xt (B.ci x6 xw 2) (B.ci x6 xx 3) (fun xy xz x10 x11 =>
              l65_7_0 (fun x12 x13 x14 x15 x16 x17 x18 x19 x1a x1b x1c x1d x1e x1f x1g x1h x1i x1j x1k x1l x1m x1n x1o x1p x1q x1r x1s x1t x1u x1v x1w x1x =>
                l65_3_0 k0 x12 x13 x14 x15 x16 x17 x18 x19 x1a x1b x1c x1d x1e x1f x1g x1h x1i x1j x1k x1l x1m x1n x1o x1p x1q x1r x1s x1t x1u x1v x1w (A.ar .add .i64 x1x 1)) x0 x1 x2 x3 x4 x5 x6 x7 x8 x9 xa xb xc xd xe xf xg xh xi xj xk xl xm xn xo xp xq xr xs xt xu xv xy xz x10 x11 0))
            | false => none)
          | none => none)
        | false => none)
      | none => none)
    | false => (k0 xu)
def L65_3_0 {β : Type} (A : Pr) (B : Pk) (N : Nat) : Nat → (Int → Option β) → Q7 β
  | 0, _, _, _, _, _, _, _, _, _, _, _, _, _, _, _, _, _, _, _, _, _, _, _, _, _, _, _, _, _, _, _, _, _ => none
  | n + 1, k0, x0, x1, x2, x3, x4, x5, x6, x7, x8, x9, xa, xb, xc, xd, xe, xf, xg, xh, xi, xj, xk, xl, xm, xn, xo, xp, xq, xr, xs, xt, xu, xv =>
    GL65_3_0 A B (F58_0 A B N) (L65_7_0 A B N N) (L65_3_0 A B N n) k0 x0 x1 x2 x3 x4 x5 x6 x7 x8 x9 xa xb xc xd xe xf xg xh xi xj xk xl xm xn xo xp xq xr xs xt xu xv
def P35 : List PT := [.us 7, pI, .us 64]
def S35 (x0 : Int) : List T := (T.u :: T.u :: T.u :: T.u :: T.u :: T.u :: T.u :: (tI x0) :: T.u :: T.u :: T.u :: T.u :: T.u :: T.u :: T.u :: T.u :: T.u :: T.u :: T.u :: T.u :: T.u :: T.u :: T.u :: T.u :: T.u :: T.u :: T.u :: T.u :: T.u :: T.u :: T.u :: T.u :: T.u :: T.u :: T.u :: T.u :: T.u :: T.u :: T.u :: T.u :: T.u :: T.u :: T.u :: T.u :: T.u :: T.u :: T.u :: T.u :: T.u :: T.u :: T.u :: T.u :: T.u :: T.u :: T.u :: T.u :: T.u :: T.u :: T.u :: T.u :: T.u :: T.u :: T.u :: T.u :: T.u :: T.u :: T.u :: T.u :: T.u :: T.u :: T.u :: T.u :: [])
noncomputable def ML65_3 {β : Type} (l65_3_0 : (Int → Option β) → Q7 β) (s : List T) : Option ((Ex → List T → Option β) → Option β) :=
  match gTs P33 (clean ((Hn 65).lp 3).1 s) [] with
  | some (.i x0 :: .i x1 :: .i x2 :: .i x3 :: .i x4 :: .i x5 :: .l x6 :: .i x7 :: .i x8 :: .i x9 :: .i xa :: .i xb :: .l xc :: .i xd :: .i xe :: .b xf :: .b xg :: .b xh :: .b xi :: .b xj :: .b xk :: .b xl :: .b xm :: .l xn :: .i xo :: .i xp :: .i xq :: .i xr :: .i xs :: .i xt :: .i xu :: .i xv :: []) => some fun kk => l65_3_0 (fun xw => kk (Ex.ex 0) (S35 xw)) x0 x1 x2 x3 x4 x5 x6 x7 x8 x9 xa xb xc xd xe xf xg xh xi xj xk xl xm xn xo xp xq xr xs xt xu xv
  | _ => none
theorem e65_3_0 {β : Type} (A : Pr) (B : Pk) (f58_0 : Int → Int → Int → Int → Int → Int → (Int → Int → Int → Int → Option β) → Option β) (l65_7_0 : (Q7 β) → Q8 β) (l65_3_0 : (Int → Option β) → Q7 β) (x0 x1 x2 x3 x4 x5 : Int) (x6 : List R) (x7 x8 x9 xa xb : Int) (xc : List R) (xd xe : Int) (xf xg xh xi xj xk xl xm : Bool) (xn : List R) (xo xp xq xr xs xt xu xv : Int) (kk : Ex → List T → Option β) :
    uTs P33 (.i x0 :: .i x1 :: .i x2 :: .i x3 :: .i x4 :: .i x5 :: .l x6 :: .i x7 :: .i x8 :: .i x9 :: .i xa :: .i xb :: .l xc :: .i xd :: .i xe :: .b xf :: .b xg :: .b xh :: .b xi :: .b xj :: .b xk :: .b xl :: .b xm :: .l xn :: .i xo :: .i xp :: .i xq :: .i xr :: .i xs :: .i xt :: .i xu :: .i xv :: []) (fun s _ => evK (mkK Tryz.prog A B [(58, M58_0 f58_0)] [(7, ML65_7 l65_7_0)] (Hn 65).pt []) X65_3 s (fun e s' => match e with
      | .nm => (match ML65_3 l65_3_0 s' with | some h => h kk | none => none)
      | .ex m => kk (.ex m) (clean ((Hn 65).lp (firstReg X65_3)).2 s')
      | .rt => kk .rt (clean ((Hn 65).lp (firstReg X65_3)).2 s'))) = GL65_3_0 A B f58_0 l65_7_0 l65_3_0 (fun xw => kk (Ex.ex 0) (S35 xw)) x0 x1 x2 x3 x4 x5 x6 x7 x8 x9 xa xb xc xd xe xf xg xh xi xj xk xl xm xn xo xp xq xr xs xt xu xv := by kernel_rfl
theorem ol65_3 {β : Type} (N : Nat) : ∀ n, SndL (β := β) Tryz.prog Hn (Hn 65) X65_3 (ML65_3 (L65_3_0 re rk N n))
  | 0 => by
    intro s h kk r ha hr
    unfold ML65_3 at ha
    split at ha
    · cases ha; cases hr
    · cases ha
  | n + 1 => by
    have ih := ol65_3 (β := β) N n
    intro s h kk r ha hr
    unfold ML65_3 at ha
    split at ha
    · rename_i hs
      cases ha
      have hk := via_pat hs ((e65_3_0 re rk (F58_0 re rk N) (L65_7_0 re rk N N) (L65_3_0 re rk N n) _ _ _ _ _ _ _ _ _ _ _ _ _ _ _ _ _ _ _ _ _ _ _ _ _ _ _ _ _ _ _ _ kk).trans hr)
      exact round_ok (show SndAll Tryz.prog Hn [(58, M58_0 (F58_0 re rk N))] from ⟨o58_0 N, trivial⟩) (spots := [.lp X65_7]) (by kernel_rfl) ⟨cut_lp (id := 7) i65_7 (ol65_7 N N) (fun s kk => by kernel_rfl), trivial⟩ ih (hd := clean ((Hn 65).lp 3).1 s) (by rw [i65_3]) hk
    · cases ha
def G65_0 {β : Type} (A : Pr) (B : Pk) (l65_3_0 : (Int → Option β) → Q7 β) (x0 x1 x2 x3 x4 x5 : Int) (x6 : List R) (x7 x8 x9 xa xb : Int) (xc : List R) (xd xe : Int) (xf xg xh xi xj xk xl xm : Bool) (xn : List R) (xo xp xq xr xs xt : Int) (k0 : Int → Option β) : Option β :=
    l65_3_0 (fun xu =>
    k0 xu) x0 x1 x2 x3 x4 x5 x6 x7 x8 x9 xa xb xc xd xe xf xg xh xi xj xk xl xm xn xo xp xq xr xs xt 0 0
def F65_0 {β : Type} (A : Pr) (B : Pk) (N : Nat) (x0 x1 x2 x3 x4 x5 : Int) (x6 : List R) (x7 x8 x9 xa xb : Int) (xc : List R) (xd xe : Int) (xf xg xh xi xj xk xl xm : Bool) (xn : List R) (xo xp xq xr xs xt : Int) (k0 : Int → Option β) : Option β :=
  G65_0 A B (L65_3_0 A B N N) x0 x1 x2 x3 x4 x5 x6 x7 x8 x9 xa xb xc xd xe xf xg xh xi xj xk xl xm xn xo xp xq xr xs xt k0
def M65_0 {β : Type} (f65_0 : Int → Int → Int → Int → Int → Int → List R → Int → Int → Int → Int → Int → List R → Int → Int → Bool → Bool → Bool → Bool → Bool → Bool → Bool → Bool → List R → Int → Int → Int → Int → Int → Int → (Int → Option β) → Option β) (a : List T) : Option ((T → List (List T) → Option β) → Option β) :=
  match gTs P29 a [] with
  | some (.i x0 :: .i x1 :: .i x2 :: .i x3 :: .i x4 :: .i x5 :: .l x6 :: .i x7 :: .i x8 :: .i x9 :: .i xa :: .i xb :: .l xc :: .i xd :: .i xe :: .b xf :: .b xg :: .b xh :: .b xi :: .b xj :: .b xk :: .b xl :: .b xm :: .l xn :: .i xo :: .i xp :: .i xq :: .i xr :: .i xs :: .i xt :: []) => some fun kk => f65_0 x0 x1 x2 x3 x4 x5 x6 x7 x8 x9 xa xb xc xd xe xf xg xh xi xj xk xl xm xn xo xp xq xr xs xt (fun xu => kk (tI xu) [])
  | _ => none
theorem e65_0 {β : Type} (A : Pr) (B : Pk) (l65_3_0 : (Int → Option β) → Q7 β) (x0 x1 x2 x3 x4 x5 : Int) (x6 : List R) (x7 x8 x9 xa xb : Int) (xc : List R) (xd xe : Int) (xf xg xh xi xj xk xl xm : Bool) (xn : List R) (xo xp xq xr xs xt : Int) (kk : T → List (List T) → Option β) :
    uTs P29 (.i x0 :: .i x1 :: .i x2 :: .i x3 :: .i x4 :: .i x5 :: .l x6 :: .i x7 :: .i x8 :: .i x9 :: .i xa :: .i xb :: .l xc :: .i xd :: .i xe :: .b xf :: .b xg :: .b xh :: .b xi :: .b xj :: .b xk :: .b xl :: .b xm :: .l xn :: .i xo :: .i xp :: .i xq :: .i xr :: .i xs :: .i xt :: []) (fun a _ => bodyK (mkK Tryz.prog A B [] [(3, ML65_3 l65_3_0)] (Hn 65).pt []) Tryz.f65 a kk) = G65_0 A B l65_3_0 x0 x1 x2 x3 x4 x5 x6 x7 x8 x9 xa xb xc xd xe xf xg xh xi xj xk xl xm xn xo xp xq xr xs xt (fun xu => kk (tI xu) []) := by kernel_rfl
theorem o65_0 {β : Type} (N : Nat) : Snd (β := β) Tryz.prog Hn 65 (M65_0 (F65_0 re rk N)) := by
  intro a h kk r ha hr
  unfold M65_0 at ha
  split at ha
  · rename_i hs
    cases ha
    have hk := via_pat hs ((e65_0 re rk (L65_3_0 re rk N N) _ _ _ _ _ _ _ _ _ _ _ _ _ _ _ _ _ _ _ _ _ _ _ _ _ _ _ _ _ _ kk).trans hr)
    exact fn_ok (f := 65) (fn := Tryz.f65) (H := Hn) (by kernel_rfl) (show SndAll Tryz.prog Hn [] from trivial) (spots := [.lp X65_3]) (by kernel_rfl) ⟨cut_lp (id := 3) i65_3 (ol65_3 N N) (fun s kk => by kernel_rfl), trivial⟩ hk
  · cases ha
noncomputable def X37_13 : Code := atF Tryz.f37 [true, true, true, true, true, true, true, false, true, false, false]
theorem i37_13 : firstReg X37_13 = 13 := by kernel_rfl
def GL37_13_0 {β : Type} (A : Pr) (B : Pk) (f64_0 : Int → Int → Int → Int → Int → Int → List R → Int → Int → Int → Int → Int → List R → Int → Int → Bool → Bool → Bool → Bool → Bool → Bool → Bool → Bool → List R → Int → Int → Int → Int → Int → Int → (Int → Option β) → Option β) (f65_0 : Int → Int → Int → Int → Int → Int → List R → Int → Int → Int → Int → Int → List R → Int → Int → Bool → Bool → Bool → Bool → Bool → Bool → Bool → Bool → List R → Int → Int → Int → Int → Int → Int → (Int → Option β) → Option β) (l37_13_0 : (Int → Option β) → (Option β) → Q12 β) (k0 : Int → Option β) (k1 : Option β) (x0 x1 x2 x3 x4 x5 : Int) (x6 : List R) (x7 x8 x9 xa xb : Int) (xc : List R) (xd xe : Int) (xf xg xh xi xj xk xl xm : Bool) (xn : List R) (xo xp : Int) (xq : List R) (xr : Int) : Option β :=
    match (A.cm .lss xr (A.on (A.len xq))) with
    | true => (match (A.ix xr (A.len xq)) with
      | some xs => (match (B.okC [(Sh.i .i64), (Sh.i .i64), (Sh.i .i64), (Sh.i .i64)] xq xs 0) with
        | true => (f64_0 x0 x1 x2 x3 x4 x5 x6 x7 x8 x9 xa xb xc xd xe xf xg xh xi xj xk xl xm xn xo xp (B.ci xq xs 0) (B.ci xq xs 1) (B.ci xq xs 2) (B.ci xq xs 3) (fun xt =>
          match (A.cm .gtr xt 65536) with
            | true => (k0 5)
            | false => (match (A.ix xr (A.len xq)) with
              | some xu => (match (B.okC [(Sh.i .i64), (Sh.i .i64), (Sh.i .i64), (Sh.i .i64)] xq xu 0) with
                | true => (f65_0 x0 x1 x2 x3 x4 x5 x6 x7 x8 x9 xa xb xc xd xe xf xg xh xi xj xk xl xm xn xo xp (B.ci xq xu 0) (B.ci xq xu 1) (B.ci xq xu 2) (B.ci xq xu 3) (fun xv =>
                  match (A.cm .gtr xv 65536) with
                    | true => (k0 5)
                    | false => (l37_13_0 k0 k1 x0 x1 x2 x3 x4 x5 x6 x7 x8 x9 xa xb xc xd xe xf xg xh xi xj xk xl xm xn xo xp xq (A.ar .add .i64 xr 1))))
                | false => none)
              | none => none)))
        | false => none)
      | none => none)
    | false => k1
def L37_13_0 {β : Type} (A : Pr) (B : Pk) (N : Nat) : Nat → (Int → Option β) → (Option β) → Q12 β
  | 0, _, _, _, _, _, _, _, _, _, _, _, _, _, _, _, _, _, _, _, _, _, _, _, _, _, _, _, _, _, _ => none
  | n + 1, k0, k1, x0, x1, x2, x3, x4, x5, x6, x7, x8, x9, xa, xb, xc, xd, xe, xf, xg, xh, xi, xj, xk, xl, xm, xn, xo, xp, xq, xr =>
    GL37_13_0 A B (F64_0 A B N) (F65_0 A B N) (L37_13_0 A B N n) k0 k1 x0 x1 x2 x3 x4 x5 x6 x7 x8 x9 xa xb xc xd xe xf xg xh xi xj xk xl xm xn xo xp xq xr
def P36 : List PT := [.us 4, pI, .us 74]
def S36 (x0 : Int) : List T := (T.u :: T.u :: T.u :: T.u :: (tI x0) :: T.u :: T.u :: T.u :: T.u :: T.u :: T.u :: T.u :: T.u :: T.u :: T.u :: T.u :: T.u :: T.u :: T.u :: T.u :: T.u :: T.u :: T.u :: T.u :: T.u :: T.u :: T.u :: T.u :: T.u :: T.u :: T.u :: T.u :: T.u :: T.u :: T.u :: T.u :: T.u :: T.u :: T.u :: T.u :: T.u :: T.u :: T.u :: T.u :: T.u :: T.u :: T.u :: T.u :: T.u :: T.u :: T.u :: T.u :: T.u :: T.u :: T.u :: T.u :: T.u :: T.u :: T.u :: T.u :: T.u :: T.u :: T.u :: T.u :: T.u :: T.u :: T.u :: T.u :: T.u :: T.u :: T.u :: T.u :: T.u :: T.u :: T.u :: T.u :: T.u :: T.u :: T.u :: [])
def P37 : List PT := [.us 79]
def S37  : List T := (T.u :: T.u :: T.u :: T.u :: T.u :: T.u :: T.u :: T.u :: T.u :: T.u :: T.u :: T.u :: T.u :: T.u :: T.u :: T.u :: T.u :: T.u :: T.u :: T.u :: T.u :: T.u :: T.u :: T.u :: T.u :: T.u :: T.u :: T.u :: T.u :: T.u :: T.u :: T.u :: T.u :: T.u :: T.u :: T.u :: T.u :: T.u :: T.u :: T.u :: T.u :: T.u :: T.u :: T.u :: T.u :: T.u :: T.u :: T.u :: T.u :: T.u :: T.u :: T.u :: T.u :: T.u :: T.u :: T.u :: T.u :: T.u :: T.u :: T.u :: T.u :: T.u :: T.u :: T.u :: T.u :: T.u :: T.u :: T.u :: T.u :: T.u :: T.u :: T.u :: T.u :: T.u :: T.u :: T.u :: T.u :: T.u :: T.u :: [])
def P38 : List PT := [.us 2, (.bx [pI, pI, pI, pI, pI, pI, (.r (.ro 4))]), (.bx [pI, pI, pI, pI, pI, (.r (.ro 2)), pI, pI, pB, pB, pB, pB, pB, pB, pB, pB, (.r (.ro 1)), pI, pI]), .us 2, (.own true 4), pI, .us 71]
noncomputable def ML37_13 {β : Type} (l37_13_0 : (Int → Option β) → (Option β) → Q12 β) (s : List T) : Option ((Ex → List T → Option β) → Option β) :=
  match gTs P38 (clean ((Hn 37).lp 13).1 s) [] with
  | some [.i x0, .i x1, .i x2, .i x3, .i x4, .i x5, .l x6, .i x7, .i x8, .i x9, .i xa, .i xb, .l xc, .i xd, .i xe, .b xf, .b xg, .b xh, .b xi, .b xj, .b xk, .b xl, .b xm, .l xn, .i xo, .i xp, .l xq, .i xr] => some fun kk => l37_13_0 (fun xs => kk Ex.rt (S36 xs)) (kk (Ex.ex 0) (S37)) x0 x1 x2 x3 x4 x5 x6 x7 x8 x9 xa xb xc xd xe xf xg xh xi xj xk xl xm xn xo xp xq xr
  | _ => none
theorem e37_13_0 {β : Type} (A : Pr) (B : Pk) (f64_0 : Int → Int → Int → Int → Int → Int → List R → Int → Int → Int → Int → Int → List R → Int → Int → Bool → Bool → Bool → Bool → Bool → Bool → Bool → Bool → List R → Int → Int → Int → Int → Int → Int → (Int → Option β) → Option β) (f65_0 : Int → Int → Int → Int → Int → Int → List R → Int → Int → Int → Int → Int → List R → Int → Int → Bool → Bool → Bool → Bool → Bool → Bool → Bool → Bool → List R → Int → Int → Int → Int → Int → Int → (Int → Option β) → Option β) (l37_13_0 : (Int → Option β) → (Option β) → Q12 β) (x0 x1 x2 x3 x4 x5 : Int) (x6 : List R) (x7 x8 x9 xa xb : Int) (xc : List R) (xd xe : Int) (xf xg xh xi xj xk xl xm : Bool) (xn : List R) (xo xp : Int) (xq : List R) (xr : Int) (kk : Ex → List T → Option β) :
    uTs P38 [.i x0, .i x1, .i x2, .i x3, .i x4, .i x5, .l x6, .i x7, .i x8, .i x9, .i xa, .i xb, .l xc, .i xd, .i xe, .b xf, .b xg, .b xh, .b xi, .b xj, .b xk, .b xl, .b xm, .l xn, .i xo, .i xp, .l xq, .i xr] (fun s _ => evK (mkK Tryz.prog A B [(64, M64_0 f64_0), (65, M65_0 f65_0)] [] (Hn 37).pt []) X37_13 s (fun e s' => match e with
      | .nm => (match ML37_13 l37_13_0 s' with | some h => h kk | none => none)
      | .ex m => kk (.ex m) (clean ((Hn 37).lp (firstReg X37_13)).2 s')
      | .rt => kk .rt (clean ((Hn 37).lp (firstReg X37_13)).2 s'))) = GL37_13_0 A B f64_0 f65_0 l37_13_0 (fun xs => kk Ex.rt (S36 xs)) (kk (Ex.ex 0) (S37)) x0 x1 x2 x3 x4 x5 x6 x7 x8 x9 xa xb xc xd xe xf xg xh xi xj xk xl xm xn xo xp xq xr := by kernel_rfl
theorem ol37_13 {β : Type} (N : Nat) : ∀ n, SndL (β := β) Tryz.prog Hn (Hn 37) X37_13 (ML37_13 (L37_13_0 re rk N n))
  | 0 => by
    intro s h kk r ha hr
    unfold ML37_13 at ha
    split at ha
    · cases ha; cases hr
    · cases ha
  | n + 1 => by
    have ih := ol37_13 (β := β) N n
    intro s h kk r ha hr
    unfold ML37_13 at ha
    split at ha
    · rename_i hs
      cases ha
      have hk := via_pat hs ((e37_13_0 re rk (F64_0 re rk N) (F65_0 re rk N) (L37_13_0 re rk N n) _ _ _ _ _ _ _ _ _ _ _ _ _ _ _ _ _ _ _ _ _ _ _ _ _ _ _ _ kk).trans hr)
      exact round_ok (show SndAll Tryz.prog Hn [(64, M64_0 (F64_0 re rk N)), (65, M65_0 (F65_0 re rk N))] from ⟨o64_0 N, o65_0 N, trivial⟩) (spots := []) (by kernel_rfl) trivial ih (hd := clean ((Hn 37).lp 13).1 s) (by rw [i37_13]) hk
    · cases ha
def G37_0 {β : Type} (A : Pr) (B : Pk) (f34_0 : Int → Int → Int → Int → Int → Int → List R → (Int → Option β) → Option β) (f62_0 : Int → Int → Int → Int → Int → List R → Int → Int → Bool → Bool → Bool → Bool → Bool → Bool → Bool → Bool → List R → Int → Int → (Bool → Option β) → Option β) (f63_0 : Int → Int → Int → Int → Int → List R → Int → Int → Bool → Bool → Bool → Bool → Bool → Bool → Bool → Bool → List R → Int → Int → (Bool → Option β) → Option β) (f61_0 : Int → Int → Int → Int → Int → Int → (List R → Option β) → Option β) (l37_13_0 : (Int → Option β) → (Option β) → Q12 β) (x0 x1 x2 x3 x4 x5 : Int) (x6 : List R) (x7 x8 x9 xa xb : Int) (xc : List R) (xd xe : Int) (xf xg xh xi xj xk xl xm : Bool) (xn : List R) (xo xp : Int) (k0 : Int → Option β) : Option β :=
    f34_0 x0 x1 x2 x3 x4 x5 x6 (fun xq =>
    match (A.cm .neq xq 0) with
      | true => (k0 xq)
      | false => (f62_0 x7 x8 x9 xa xb xc xd xe xf xg xh xi xj xk xl xm xn xo xp (fun xr =>
        match (A.bn xr) with
          | true => (k0 3)
          | false => (f63_0 x7 x8 x9 xa xb xc xd xe xf xg xh xi xj xk xl xm xn xo xp (fun xs =>
            match (A.bn xs) with
              | true => (k0 13)
              | false => (match (A.cm .neq x9 0) with
                | true => (match (A.cm .lss (A.on (A.len x6)) 3) with
                  | true => (k0 13)
                  | false => (match (A.ix 0 (A.len x6)) with
                    | some xt => (match (B.okE [(Sh.i .i64), Sh.b, (Sh.i .i64), (Sh.i .i64)] true x6 xt) with
                      | true => (match (A.ix 1 (A.len x6)) with
                        | some xu => (match (B.okE [(Sh.i .i64), Sh.b, (Sh.i .i64), (Sh.i .i64)] true x6 xu) with
                          | true => (match (A.bn (A.ba (A.cm .eql (B.ci x6 xt 0) (B.ci x6 xu 0)) (A.ba (A.be (B.cb x6 xt 1) (B.cb x6 xu 1)) (A.ba (A.cm .eql (B.ci x6 xt 2) (B.ci x6 xu 2)) (A.ba (A.cm .eql (B.ci x6 xt 3) (B.ci x6 xu 3)) true))))) with
                            | true => (k0 13)
                            | false => (match (A.ix 0 (A.len x6)) with
                              | some xv => (match (B.okE [(Sh.i .i64), Sh.b, (Sh.i .i64), (Sh.i .i64)] true x6 xv) with
                                | true => (match (A.ix 2 (A.len x6)) with
                                  | some xw => (match (B.okE [(Sh.i .i64), Sh.b, (Sh.i .i64), (Sh.i .i64)] true x6 xw) with
                                    | true => (match (A.bn (A.ba (A.cm .eql (B.ci x6 xv 0) (B.ci x6 xw 0)) (A.ba (A.be (B.cb x6 xv 1) (B.cb x6 xw 1)) (A.ba (A.cm .eql (B.ci x6 xv 2) (B.ci x6 xw 2)) (A.ba (A.cm .eql (B.ci x6 xv 3) (B.ci x6 xw 3)) true))))) with
                                      | true => (k0 13)
                                      | false => (f61_0 x0 x1 x2 x3 x4 x5 (fun xx =>
                                        l37_13_0 (fun xy =>
                                          k0 xy) (k0 0) x0 x1 x2 x3 x4 x5 x6 x7 x8 x9 xa xb xc xd xe xf xg xh xi xj xk xl xm xn xo xp xx 0)))
                                    | false => none)
                                  | none => none)
                                | false => none)
                              | none => none))
                          | false => none)
                        | none => none)
                      | false => none)
                    | none => none))
                | false => (f61_0 x0 x1 x2 x3 x4 x5 (fun xz =>
                  l37_13_0 (fun x10 =>
                    k0 x10) (k0 0) x0 x1 x2 x3 x4 x5 x6 x7 x8 x9 xa xb xc xd xe xf xg xh xi xj xk xl xm xn xo xp xz 0))))))))
def F37_0 {β : Type} (A : Pr) (B : Pk) (N : Nat) (x0 x1 x2 x3 x4 x5 : Int) (x6 : List R) (x7 x8 x9 xa xb : Int) (xc : List R) (xd xe : Int) (xf xg xh xi xj xk xl xm : Bool) (xn : List R) (xo xp : Int) (k0 : Int → Option β) : Option β :=
  G37_0 A B (F34_0 A B N) (F62_0 A B N) (F63_0 A B N) (F61_0 A B N) (L37_13_0 A B N N) x0 x1 x2 x3 x4 x5 x6 x7 x8 x9 xa xb xc xd xe xf xg xh xi xj xk xl xm xn xo xp k0
def P39 : List PT := [(.r (.a [(.i .i64), (.i .i64), (.i .i64), (.i .i64), (.i .i64), (.i .i64), (.ro 4)])), (.r (.a [(.i .i64), (.i .i64), (.i .i64), (.i .i64), (.i .i64), (.ro 2), (.i .i64), (.i .i64), .b, .b, .b, .b, .b, .b, .b, .b, (.ro 1), (.i .i64), (.i .i64)]))]
def M37_0 {β : Type} (f37_0 : Int → Int → Int → Int → Int → Int → List R → Int → Int → Int → Int → Int → List R → Int → Int → Bool → Bool → Bool → Bool → Bool → Bool → Bool → Bool → List R → Int → Int → (Int → Option β) → Option β) (a : List T) : Option ((T → List (List T) → Option β) → Option β) :=
  match gTs P39 a [] with
  | some [.i x0, .i x1, .i x2, .i x3, .i x4, .i x5, .l x6, .i x7, .i x8, .i x9, .i xa, .i xb, .l xc, .i xd, .i xe, .b xf, .b xg, .b xh, .b xi, .b xj, .b xk, .b xl, .b xm, .l xn, .i xo, .i xp] => some fun kk => f37_0 x0 x1 x2 x3 x4 x5 x6 x7 x8 x9 xa xb xc xd xe xf xg xh xi xj xk xl xm xn xo xp (fun xq => kk (tI xq) [])
  | _ => none
theorem e37_0 {β : Type} (A : Pr) (B : Pk) (f34_0 : Int → Int → Int → Int → Int → Int → List R → (Int → Option β) → Option β) (f62_0 : Int → Int → Int → Int → Int → List R → Int → Int → Bool → Bool → Bool → Bool → Bool → Bool → Bool → Bool → List R → Int → Int → (Bool → Option β) → Option β) (f63_0 : Int → Int → Int → Int → Int → List R → Int → Int → Bool → Bool → Bool → Bool → Bool → Bool → Bool → Bool → List R → Int → Int → (Bool → Option β) → Option β) (f61_0 : Int → Int → Int → Int → Int → Int → (List R → Option β) → Option β) (l37_13_0 : (Int → Option β) → (Option β) → Q12 β) (x0 x1 x2 x3 x4 x5 : Int) (x6 : List R) (x7 x8 x9 xa xb : Int) (xc : List R) (xd xe : Int) (xf xg xh xi xj xk xl xm : Bool) (xn : List R) (xo xp : Int) (kk : T → List (List T) → Option β) :
    uTs P39 [.i x0, .i x1, .i x2, .i x3, .i x4, .i x5, .l x6, .i x7, .i x8, .i x9, .i xa, .i xb, .l xc, .i xd, .i xe, .b xf, .b xg, .b xh, .b xi, .b xj, .b xk, .b xl, .b xm, .l xn, .i xo, .i xp] (fun a _ => bodyK (mkK Tryz.prog A B [(34, M34_0 f34_0), (62, M62_0 f62_0), (63, M63_0 f63_0), (61, M61_0 f61_0)] [(13, ML37_13 l37_13_0)] (Hn 37).pt []) Tryz.f37 a kk) = G37_0 A B f34_0 f62_0 f63_0 f61_0 l37_13_0 x0 x1 x2 x3 x4 x5 x6 x7 x8 x9 xa xb xc xd xe xf xg xh xi xj xk xl xm xn xo xp (fun xq => kk (tI xq) []) := by kernel_rfl
theorem o37_0 {β : Type} (N : Nat) : Snd (β := β) Tryz.prog Hn 37 (M37_0 (F37_0 re rk N)) := by
  intro a h kk r ha hr
  unfold M37_0 at ha
  split at ha
  · rename_i hs
    cases ha
    have hk := via_pat hs ((e37_0 re rk (F34_0 re rk N) (F62_0 re rk N) (F63_0 re rk N) (F61_0 re rk N) (L37_13_0 re rk N N) _ _ _ _ _ _ _ _ _ _ _ _ _ _ _ _ _ _ _ _ _ _ _ _ _ _ kk).trans hr)
    exact fn_ok (f := 37) (fn := Tryz.f37) (H := Hn) (by kernel_rfl) (show SndAll Tryz.prog Hn [(34, M34_0 (F34_0 re rk N)), (62, M62_0 (F62_0 re rk N)), (63, M63_0 (F63_0 re rk N)), (61, M61_0 (F61_0 re rk N))] from ⟨o34_0 N, o62_0 N, o63_0 N, o61_0 N, trivial⟩) (spots := [.lp X37_13]) (by kernel_rfl) ⟨cut_lp (id := 13) i37_13 (ol37_13 N N) (fun s kk => by kernel_rfl), trivial⟩ hk
  · cases ha
def G66_0 {β : Type} (A : Pr) (B : Pk) (f37_0 : Int → Int → Int → Int → Int → Int → List R → Int → Int → Int → Int → Int → List R → Int → Int → Bool → Bool → Bool → Bool → Bool → Bool → Bool → Bool → List R → Int → Int → (Int → Option β) → Option β) (f36_0 : Int → Int → Int → Int → Int → Int → List R → (List R → Option β) → Option β) (x0 x1 x2 x3 x4 x5 : Int) (x6 : List R) (x7 x8 x9 xa xb : Int) (xc : List R) (xd xe : Int) (xf xg xh xi xj xk xl xm : Bool) (xn : List R) (xo xp xq xr : Int) (k0 : Bool → Option β) : Option β :=
    f37_0 x0 x1 x2 x3 x4 x5 x6 x7 x8 x9 xa xb xc xd xe xf xg xh xi xj xk xl xm xn xo xp (fun xs =>
    match (A.cm .eql xs 0) with
      | true => (match (A.cm .geq xq 0) with
        | true => (f36_0 x0 x1 x2 x3 x4 x5 x6 (fun xt =>
          match (A.cm .lss xq (A.on (A.len xt))) with
            | true => (match (A.cm .geq xr 0) with
              | true => (k0 (A.cm .lss xr (A.on (A.len x6))))
              | false => (k0 false))
            | false => (k0 false)))
        | false => (k0 false))
      | false => (k0 false))
def F66_0 {β : Type} (A : Pr) (B : Pk) (N : Nat) (x0 x1 x2 x3 x4 x5 : Int) (x6 : List R) (x7 x8 x9 xa xb : Int) (xc : List R) (xd xe : Int) (xf xg xh xi xj xk xl xm : Bool) (xn : List R) (xo xp xq xr : Int) (k0 : Bool → Option β) : Option β :=
  G66_0 A B (F37_0 A B N) (F36_0 A B N) x0 x1 x2 x3 x4 x5 x6 x7 x8 x9 xa xb xc xd xe xf xg xh xi xj xk xl xm xn xo xp xq xr k0
def P40 : List PT := [(.r (.a [(.i .i64), (.i .i64), (.i .i64), (.i .i64), (.i .i64), (.i .i64), (.ro 4)])), (.r (.a [(.i .i64), (.i .i64), (.i .i64), (.i .i64), (.i .i64), (.ro 2), (.i .i64), (.i .i64), .b, .b, .b, .b, .b, .b, .b, .b, (.ro 1), (.i .i64), (.i .i64)])), pI, pI]
def M66_0 {β : Type} (f66_0 : Int → Int → Int → Int → Int → Int → List R → Int → Int → Int → Int → Int → List R → Int → Int → Bool → Bool → Bool → Bool → Bool → Bool → Bool → Bool → List R → Int → Int → Int → Int → (Bool → Option β) → Option β) (a : List T) : Option ((T → List (List T) → Option β) → Option β) :=
  match gTs P40 a [] with
  | some [.i x0, .i x1, .i x2, .i x3, .i x4, .i x5, .l x6, .i x7, .i x8, .i x9, .i xa, .i xb, .l xc, .i xd, .i xe, .b xf, .b xg, .b xh, .b xi, .b xj, .b xk, .b xl, .b xm, .l xn, .i xo, .i xp, .i xq, .i xr] => some fun kk => f66_0 x0 x1 x2 x3 x4 x5 x6 x7 x8 x9 xa xb xc xd xe xf xg xh xi xj xk xl xm xn xo xp xq xr (fun xs => kk (tB xs) [])
  | _ => none
theorem e66_0 {β : Type} (A : Pr) (B : Pk) (f37_0 : Int → Int → Int → Int → Int → Int → List R → Int → Int → Int → Int → Int → List R → Int → Int → Bool → Bool → Bool → Bool → Bool → Bool → Bool → Bool → List R → Int → Int → (Int → Option β) → Option β) (f36_0 : Int → Int → Int → Int → Int → Int → List R → (List R → Option β) → Option β) (x0 x1 x2 x3 x4 x5 : Int) (x6 : List R) (x7 x8 x9 xa xb : Int) (xc : List R) (xd xe : Int) (xf xg xh xi xj xk xl xm : Bool) (xn : List R) (xo xp xq xr : Int) (kk : T → List (List T) → Option β) :
    uTs P40 [.i x0, .i x1, .i x2, .i x3, .i x4, .i x5, .l x6, .i x7, .i x8, .i x9, .i xa, .i xb, .l xc, .i xd, .i xe, .b xf, .b xg, .b xh, .b xi, .b xj, .b xk, .b xl, .b xm, .l xn, .i xo, .i xp, .i xq, .i xr] (fun a _ => bodyK (mkK Tryz.prog A B [(37, M37_0 f37_0), (36, M36_0 f36_0)] [] (Hn 66).pt []) Tryz.f66 a kk) = G66_0 A B f37_0 f36_0 x0 x1 x2 x3 x4 x5 x6 x7 x8 x9 xa xb xc xd xe xf xg xh xi xj xk xl xm xn xo xp xq xr (fun xs => kk (tB xs) []) := by kernel_rfl
theorem o66_0 {β : Type} (N : Nat) : Snd (β := β) Tryz.prog Hn 66 (M66_0 (F66_0 re rk N)) := by
  intro a h kk r ha hr
  unfold M66_0 at ha
  split at ha
  · rename_i hs
    cases ha
    have hk := via_pat hs ((e66_0 re rk (F37_0 re rk N) (F36_0 re rk N) _ _ _ _ _ _ _ _ _ _ _ _ _ _ _ _ _ _ _ _ _ _ _ _ _ _ _ _ kk).trans hr)
    exact fn_ok (f := 66) (fn := Tryz.f66) (H := Hn) (by kernel_rfl) (show SndAll Tryz.prog Hn [(37, M37_0 (F37_0 re rk N)), (36, M36_0 (F36_0 re rk N))] from ⟨o37_0 N, o36_0 N, trivial⟩) (spots := []) (by kernel_rfl) trivial hk
  · cases ha
def G38_0 {β : Type} (A : Pr) (B : Pk) (f66_0 : Int → Int → Int → Int → Int → Int → List R → Int → Int → Int → Int → Int → List R → Int → Int → Bool → Bool → Bool → Bool → Bool → Bool → Bool → Bool → List R → Int → Int → Int → Int → (Bool → Option β) → Option β) (f36_0 : Int → Int → Int → Int → Int → Int → List R → (List R → Option β) → Option β) (f64_0 : Int → Int → Int → Int → Int → Int → List R → Int → Int → Int → Int → Int → List R → Int → Int → Bool → Bool → Bool → Bool → Bool → Bool → Bool → Bool → List R → Int → Int → Int → Int → Int → Int → (Int → Option β) → Option β) (x0 x1 x2 x3 x4 x5 : Int) (x6 : List R) (x7 x8 x9 xa xb : Int) (xc : List R) (xd xe : Int) (xf xg xh xi xj xk xl xm : Bool) (xn : List R) (xo xp xq : Int) (k0 : Int → Option β) : Option β :=
    f66_0 x0 x1 x2 x3 x4 x5 x6 x7 x8 x9 xa xb xc xd xe xf xg xh xi xj xk xl xm xn xo xp xq 0 (fun xr =>
    match (A.bn xr) with
      | true => (k0 0)
      | false => (f36_0 x0 x1 x2 x3 x4 x5 x6 (fun xs =>
        match (A.ix xq (A.len xs)) with
          | some xt => (match (B.okC [(Sh.i .i64), (Sh.i .i64), (Sh.i .i64), (Sh.i .i64)] xs xt 0) with
            | true => (f64_0 x0 x1 x2 x3 x4 x5 x6 x7 x8 x9 xa xb xc xd xe xf xg xh xi xj xk xl xm xn xo xp (B.ci xs xt 0) (B.ci xs xt 1) (B.ci xs xt 2) (B.ci xs xt 3) (fun xu =>
              k0 xu))
            | false => none)
          | none => none)))
def F38_0 {β : Type} (A : Pr) (B : Pk) (N : Nat) (x0 x1 x2 x3 x4 x5 : Int) (x6 : List R) (x7 x8 x9 xa xb : Int) (xc : List R) (xd xe : Int) (xf xg xh xi xj xk xl xm : Bool) (xn : List R) (xo xp xq : Int) (k0 : Int → Option β) : Option β :=
  G38_0 A B (F66_0 A B N) (F36_0 A B N) (F64_0 A B N) x0 x1 x2 x3 x4 x5 x6 x7 x8 x9 xa xb xc xd xe xf xg xh xi xj xk xl xm xn xo xp xq k0
def P41 : List PT := [(.r (.a [(.i .i64), (.i .i64), (.i .i64), (.i .i64), (.i .i64), (.i .i64), (.ro 4)])), (.r (.a [(.i .i64), (.i .i64), (.i .i64), (.i .i64), (.i .i64), (.ro 2), (.i .i64), (.i .i64), .b, .b, .b, .b, .b, .b, .b, .b, (.ro 1), (.i .i64), (.i .i64)])), pI]
def M38_0 {β : Type} (f38_0 : Int → Int → Int → Int → Int → Int → List R → Int → Int → Int → Int → Int → List R → Int → Int → Bool → Bool → Bool → Bool → Bool → Bool → Bool → Bool → List R → Int → Int → Int → (Int → Option β) → Option β) (a : List T) : Option ((T → List (List T) → Option β) → Option β) :=
  match gTs P41 a [] with
  | some [.i x0, .i x1, .i x2, .i x3, .i x4, .i x5, .l x6, .i x7, .i x8, .i x9, .i xa, .i xb, .l xc, .i xd, .i xe, .b xf, .b xg, .b xh, .b xi, .b xj, .b xk, .b xl, .b xm, .l xn, .i xo, .i xp, .i xq] => some fun kk => f38_0 x0 x1 x2 x3 x4 x5 x6 x7 x8 x9 xa xb xc xd xe xf xg xh xi xj xk xl xm xn xo xp xq (fun xr => kk (tI xr) [])
  | _ => none
theorem e38_0 {β : Type} (A : Pr) (B : Pk) (f66_0 : Int → Int → Int → Int → Int → Int → List R → Int → Int → Int → Int → Int → List R → Int → Int → Bool → Bool → Bool → Bool → Bool → Bool → Bool → Bool → List R → Int → Int → Int → Int → (Bool → Option β) → Option β) (f36_0 : Int → Int → Int → Int → Int → Int → List R → (List R → Option β) → Option β) (f64_0 : Int → Int → Int → Int → Int → Int → List R → Int → Int → Int → Int → Int → List R → Int → Int → Bool → Bool → Bool → Bool → Bool → Bool → Bool → Bool → List R → Int → Int → Int → Int → Int → Int → (Int → Option β) → Option β) (x0 x1 x2 x3 x4 x5 : Int) (x6 : List R) (x7 x8 x9 xa xb : Int) (xc : List R) (xd xe : Int) (xf xg xh xi xj xk xl xm : Bool) (xn : List R) (xo xp xq : Int) (kk : T → List (List T) → Option β) :
    uTs P41 [.i x0, .i x1, .i x2, .i x3, .i x4, .i x5, .l x6, .i x7, .i x8, .i x9, .i xa, .i xb, .l xc, .i xd, .i xe, .b xf, .b xg, .b xh, .b xi, .b xj, .b xk, .b xl, .b xm, .l xn, .i xo, .i xp, .i xq] (fun a _ => bodyK (mkK Tryz.prog A B [(66, M66_0 f66_0), (36, M36_0 f36_0), (64, M64_0 f64_0)] [] (Hn 38).pt []) Tryz.f38 a kk) = G38_0 A B f66_0 f36_0 f64_0 x0 x1 x2 x3 x4 x5 x6 x7 x8 x9 xa xb xc xd xe xf xg xh xi xj xk xl xm xn xo xp xq (fun xr => kk (tI xr) []) := by kernel_rfl
theorem o38_0 {β : Type} (N : Nat) : Snd (β := β) Tryz.prog Hn 38 (M38_0 (F38_0 re rk N)) := by
  intro a h kk r ha hr
  unfold M38_0 at ha
  split at ha
  · rename_i hs
    cases ha
    have hk := via_pat hs ((e38_0 re rk (F66_0 re rk N) (F36_0 re rk N) (F64_0 re rk N) _ _ _ _ _ _ _ _ _ _ _ _ _ _ _ _ _ _ _ _ _ _ _ _ _ _ _ kk).trans hr)
    exact fn_ok (f := 38) (fn := Tryz.f38) (H := Hn) (by kernel_rfl) (show SndAll Tryz.prog Hn [(66, M66_0 (F66_0 re rk N)), (36, M36_0 (F36_0 re rk N)), (64, M64_0 (F64_0 re rk N))] from ⟨o66_0 N, o36_0 N, o64_0 N, trivial⟩) (spots := []) (by kernel_rfl) trivial hk
  · cases ha
noncomputable def X18_10 : Code := atF Tryz.f18 [true, true, true, true, true, false, true, false, false]
theorem i18_10 : firstReg X18_10 = 10 := by kernel_rfl
def GL18_10_0 {β : Type} (A : Pr) (B : Pk) (f38_0 : Int → Int → Int → Int → Int → Int → List R → Int → Int → Int → Int → Int → List R → Int → Int → Bool → Bool → Bool → Bool → Bool → Bool → Bool → Bool → List R → Int → Int → Int → (Int → Option β) → Option β) (l18_10_0 : (Bool → Option β) → (Option β) → Q13 β) (k0 : Bool → Option β) (k1 : Option β) (x0 x1 x2 x3 x4 x5 : Int) (x6 : List R) (x7 x8 x9 xa xb : Int) (xc : List R) (xd xe : Int) (xf xg xh xi xj xk xl xm : Bool) (xn : List R) (xo xp xq xr : Int) : Option β :=
    match (A.cm .lss xr xq) with
    | true => (f38_0 x0 x1 x2 x3 x4 x5 x6 x7 x8 x9 xa xb xc xd xe xf xg xh xi xj xk xl xm xn xo xp xr (fun xs =>
      match (A.cm .gtr xs 400) with
        | true => (k0 false)
        | false => (l18_10_0 k0 k1 x0 x1 x2 x3 x4 x5 x6 x7 x8 x9 xa xb xc xd xe xf xg xh xi xj xk xl xm xn xo xp xq (A.ar .add .i64 xr 1))))
    | false => k1
def L18_10_0 {β : Type} (A : Pr) (B : Pk) (N : Nat) : Nat → (Bool → Option β) → (Option β) → Q13 β
  | 0, _, _, _, _, _, _, _, _, _, _, _, _, _, _, _, _, _, _, _, _, _, _, _, _, _, _, _, _, _, _ => none
  | n + 1, k0, k1, x0, x1, x2, x3, x4, x5, x6, x7, x8, x9, xa, xb, xc, xd, xe, xf, xg, xh, xi, xj, xk, xl, xm, xn, xo, xp, xq, xr =>
    GL18_10_0 A B (F38_0 A B N) (L18_10_0 A B N n) k0 k1 x0 x1 x2 x3 x4 x5 x6 x7 x8 x9 xa xb xc xd xe xf xg xh xi xj xk xl xm xn xo xp xq xr
def P42 : List PT := [.us 4, pB, .us 60]
def S42 (x0 : Bool) : List T := (T.u :: T.u :: T.u :: T.u :: (tB x0) :: T.u :: T.u :: T.u :: T.u :: T.u :: T.u :: T.u :: T.u :: T.u :: T.u :: T.u :: T.u :: T.u :: T.u :: T.u :: T.u :: T.u :: T.u :: T.u :: T.u :: T.u :: T.u :: T.u :: T.u :: T.u :: T.u :: T.u :: T.u :: T.u :: T.u :: T.u :: T.u :: T.u :: T.u :: T.u :: T.u :: T.u :: T.u :: T.u :: T.u :: T.u :: T.u :: T.u :: T.u :: T.u :: T.u :: T.u :: T.u :: T.u :: T.u :: T.u :: T.u :: T.u :: T.u :: T.u :: T.u :: T.u :: T.u :: T.u :: T.u :: [])
def P43 : List PT := [.us 65]
def S43  : List T := (T.u :: T.u :: T.u :: T.u :: T.u :: T.u :: T.u :: T.u :: T.u :: T.u :: T.u :: T.u :: T.u :: T.u :: T.u :: T.u :: T.u :: T.u :: T.u :: T.u :: T.u :: T.u :: T.u :: T.u :: T.u :: T.u :: T.u :: T.u :: T.u :: T.u :: T.u :: T.u :: T.u :: T.u :: T.u :: T.u :: T.u :: T.u :: T.u :: T.u :: T.u :: T.u :: T.u :: T.u :: T.u :: T.u :: T.u :: T.u :: T.u :: T.u :: T.u :: T.u :: T.u :: T.u :: T.u :: T.u :: T.u :: T.u :: T.u :: T.u :: T.u :: T.u :: T.u :: T.u :: T.u :: [])
def P44 : List PT := [.us 2, (.bx [pI, pI, pI, pI, pI, pI, (.r (.ro 4))]), (.bx [pI, pI, pI, pI, pI, (.r (.ro 2)), pI, pI, pB, pB, pB, pB, pB, pB, pB, pB, (.r (.ro 1)), pI, pI]), .us 51, pI, pI, .us 8]
noncomputable def ML18_10 {β : Type} (l18_10_0 : (Bool → Option β) → (Option β) → Q13 β) (s : List T) : Option ((Ex → List T → Option β) → Option β) :=
  match gTs P44 (clean ((Hn 18).lp 10).1 s) [] with
  | some [.i x0, .i x1, .i x2, .i x3, .i x4, .i x5, .l x6, .i x7, .i x8, .i x9, .i xa, .i xb, .l xc, .i xd, .i xe, .b xf, .b xg, .b xh, .b xi, .b xj, .b xk, .b xl, .b xm, .l xn, .i xo, .i xp, .i xq, .i xr] => some fun kk => l18_10_0 (fun xs => kk Ex.rt (S42 xs)) (kk (Ex.ex 0) (S43)) x0 x1 x2 x3 x4 x5 x6 x7 x8 x9 xa xb xc xd xe xf xg xh xi xj xk xl xm xn xo xp xq xr
  | _ => none
theorem e18_10_0 {β : Type} (A : Pr) (B : Pk) (f38_0 : Int → Int → Int → Int → Int → Int → List R → Int → Int → Int → Int → Int → List R → Int → Int → Bool → Bool → Bool → Bool → Bool → Bool → Bool → Bool → List R → Int → Int → Int → (Int → Option β) → Option β) (l18_10_0 : (Bool → Option β) → (Option β) → Q13 β) (x0 x1 x2 x3 x4 x5 : Int) (x6 : List R) (x7 x8 x9 xa xb : Int) (xc : List R) (xd xe : Int) (xf xg xh xi xj xk xl xm : Bool) (xn : List R) (xo xp xq xr : Int) (kk : Ex → List T → Option β) :
    uTs P44 [.i x0, .i x1, .i x2, .i x3, .i x4, .i x5, .l x6, .i x7, .i x8, .i x9, .i xa, .i xb, .l xc, .i xd, .i xe, .b xf, .b xg, .b xh, .b xi, .b xj, .b xk, .b xl, .b xm, .l xn, .i xo, .i xp, .i xq, .i xr] (fun s _ => evK (mkK Tryz.prog A B [(38, M38_0 f38_0)] [] (Hn 18).pt []) X18_10 s (fun e s' => match e with
      | .nm => (match ML18_10 l18_10_0 s' with | some h => h kk | none => none)
      | .ex m => kk (.ex m) (clean ((Hn 18).lp (firstReg X18_10)).2 s')
      | .rt => kk .rt (clean ((Hn 18).lp (firstReg X18_10)).2 s'))) = GL18_10_0 A B f38_0 l18_10_0 (fun xs => kk Ex.rt (S42 xs)) (kk (Ex.ex 0) (S43)) x0 x1 x2 x3 x4 x5 x6 x7 x8 x9 xa xb xc xd xe xf xg xh xi xj xk xl xm xn xo xp xq xr := by kernel_rfl
theorem ol18_10 {β : Type} (N : Nat) : ∀ n, SndL (β := β) Tryz.prog Hn (Hn 18) X18_10 (ML18_10 (L18_10_0 re rk N n))
  | 0 => by
    intro s h kk r ha hr
    unfold ML18_10 at ha
    split at ha
    · cases ha; cases hr
    · cases ha
  | n + 1 => by
    have ih := ol18_10 (β := β) N n
    intro s h kk r ha hr
    unfold ML18_10 at ha
    split at ha
    · rename_i hs
      cases ha
      have hk := via_pat hs ((e18_10_0 re rk (F38_0 re rk N) (L18_10_0 re rk N n) _ _ _ _ _ _ _ _ _ _ _ _ _ _ _ _ _ _ _ _ _ _ _ _ _ _ _ _ kk).trans hr)
      exact round_ok (show SndAll Tryz.prog Hn [(38, M38_0 (F38_0 re rk N))] from ⟨o38_0 N, trivial⟩) (spots := []) (by kernel_rfl) trivial ih (hd := clean ((Hn 18).lp 10).1 s) (by rw [i18_10]) hk
    · cases ha
def G18_0 {β : Type} (A : Pr) (B : Pk) (f34_0 : Int → Int → Int → Int → Int → Int → List R → (Int → Option β) → Option β) (f36_0 : Int → Int → Int → Int → Int → Int → List R → (List R → Option β) → Option β) (f37_0 : Int → Int → Int → Int → Int → Int → List R → Int → Int → Int → Int → Int → List R → Int → Int → Bool → Bool → Bool → Bool → Bool → Bool → Bool → Bool → List R → Int → Int → (Int → Option β) → Option β) (l18_10_0 : (Bool → Option β) → (Option β) → Q13 β) (x0 x1 x2 x3 x4 x5 : Int) (x6 : List R) (x7 x8 x9 xa xb : Int) (xc : List R) (xd xe : Int) (xf xg xh xi xj xk xl xm : Bool) (xn : List R) (xo xp : Int) (k0 : Bool → Option β) : Option β :=
    match (A.cm .gtr (A.on (A.len x6)) 10) with
    | true => (k0 false)
    | false => (match (A.cm .gtr (A.on (A.len xc)) 10) with
      | true => (k0 false)
      | false => (match (A.cm .gtr (A.on (A.len xn)) 40) with
        | true => (k0 false)
        | false => (f34_0 x0 x1 x2 x3 x4 x5 x6 (fun xq =>
          match (A.cm .neq xq 0) with
            | true => (k0 true)
            | false => (match (A.cm .gtr (A.ar .sub .i64 x2 x0) 40) with
              | true => (k0 false)
              | false => (match (A.cm .gtr (A.ar .sub .i64 x3 x1) 40) with
                | true => (k0 false)
                | false => (f36_0 x0 x1 x2 x3 x4 x5 x6 (fun xr =>
                  match (A.cm .gtr (A.on (A.len xr)) 16) with
                    | true => (k0 false)
                    | false => (f37_0 x0 x1 x2 x3 x4 x5 x6 x7 x8 x9 xa xb xc xd xe xf xg xh xi xj xk xl xm xn xo xp (fun xs =>
                      match (A.cm .neq xs 0) with
                        | true => (k0 true)
                        | false => (f36_0 x0 x1 x2 x3 x4 x5 x6 (fun xt =>
                          l18_10_0 (fun xu =>
                            k0 xu) (k0 true) x0 x1 x2 x3 x4 x5 x6 x7 x8 x9 xa xb xc xd xe xf xg xh xi xj xk xl xm xn xo xp (A.on (A.len xt)) 0))))))))))))
def F18_0 {β : Type} (A : Pr) (B : Pk) (N : Nat) (x0 x1 x2 x3 x4 x5 : Int) (x6 : List R) (x7 x8 x9 xa xb : Int) (xc : List R) (xd xe : Int) (xf xg xh xi xj xk xl xm : Bool) (xn : List R) (xo xp : Int) (k0 : Bool → Option β) : Option β :=
  G18_0 A B (F34_0 A B N) (F36_0 A B N) (F37_0 A B N) (L18_10_0 A B N N) x0 x1 x2 x3 x4 x5 x6 x7 x8 x9 xa xb xc xd xe xf xg xh xi xj xk xl xm xn xo xp k0
def M18_0 {β : Type} (f18_0 : Int → Int → Int → Int → Int → Int → List R → Int → Int → Int → Int → Int → List R → Int → Int → Bool → Bool → Bool → Bool → Bool → Bool → Bool → Bool → List R → Int → Int → (Bool → Option β) → Option β) (a : List T) : Option ((T → List (List T) → Option β) → Option β) :=
  match gTs P39 a [] with
  | some [.i x0, .i x1, .i x2, .i x3, .i x4, .i x5, .l x6, .i x7, .i x8, .i x9, .i xa, .i xb, .l xc, .i xd, .i xe, .b xf, .b xg, .b xh, .b xi, .b xj, .b xk, .b xl, .b xm, .l xn, .i xo, .i xp] => some fun kk => f18_0 x0 x1 x2 x3 x4 x5 x6 x7 x8 x9 xa xb xc xd xe xf xg xh xi xj xk xl xm xn xo xp (fun xq => kk (tB xq) [])
  | _ => none
theorem e18_0 {β : Type} (A : Pr) (B : Pk) (f34_0 : Int → Int → Int → Int → Int → Int → List R → (Int → Option β) → Option β) (f36_0 : Int → Int → Int → Int → Int → Int → List R → (List R → Option β) → Option β) (f37_0 : Int → Int → Int → Int → Int → Int → List R → Int → Int → Int → Int → Int → List R → Int → Int → Bool → Bool → Bool → Bool → Bool → Bool → Bool → Bool → List R → Int → Int → (Int → Option β) → Option β) (l18_10_0 : (Bool → Option β) → (Option β) → Q13 β) (x0 x1 x2 x3 x4 x5 : Int) (x6 : List R) (x7 x8 x9 xa xb : Int) (xc : List R) (xd xe : Int) (xf xg xh xi xj xk xl xm : Bool) (xn : List R) (xo xp : Int) (kk : T → List (List T) → Option β) :
    uTs P39 [.i x0, .i x1, .i x2, .i x3, .i x4, .i x5, .l x6, .i x7, .i x8, .i x9, .i xa, .i xb, .l xc, .i xd, .i xe, .b xf, .b xg, .b xh, .b xi, .b xj, .b xk, .b xl, .b xm, .l xn, .i xo, .i xp] (fun a _ => bodyK (mkK Tryz.prog A B [(34, M34_0 f34_0), (36, M36_0 f36_0), (37, M37_0 f37_0)] [(10, ML18_10 l18_10_0)] (Hn 18).pt []) Tryz.f18 a kk) = G18_0 A B f34_0 f36_0 f37_0 l18_10_0 x0 x1 x2 x3 x4 x5 x6 x7 x8 x9 xa xb xc xd xe xf xg xh xi xj xk xl xm xn xo xp (fun xq => kk (tB xq) []) := by kernel_rfl
theorem o18_0 {β : Type} (N : Nat) : Snd (β := β) Tryz.prog Hn 18 (M18_0 (F18_0 re rk N)) := by
  intro a h kk r ha hr
  unfold M18_0 at ha
  split at ha
  · rename_i hs
    cases ha
    have hk := via_pat hs ((e18_0 re rk (F34_0 re rk N) (F36_0 re rk N) (F37_0 re rk N) (L18_10_0 re rk N N) _ _ _ _ _ _ _ _ _ _ _ _ _ _ _ _ _ _ _ _ _ _ _ _ _ _ kk).trans hr)
    exact fn_ok (f := 18) (fn := Tryz.f18) (H := Hn) (by kernel_rfl) (show SndAll Tryz.prog Hn [(34, M34_0 (F34_0 re rk N)), (36, M36_0 (F36_0 re rk N)), (37, M37_0 (F37_0 re rk N))] from ⟨o34_0 N, o36_0 N, o37_0 N, trivial⟩) (spots := [.lp X18_10]) (by kernel_rfl) ⟨cut_lp (id := 10) i18_10 (ol18_10 N N) (fun s kk => by kernel_rfl), trivial⟩ hk
  · cases ha
noncomputable def X11_4 : Code := atF Tryz.f11 [true, true, false, true, false, false]
theorem i11_4 : firstReg X11_4 = 4 := by kernel_rfl
def GL11_4_0 {β : Type} (A : Pr) (B : Pk) (l11_4_0 : (Q14 β) → (Q15 β) → Q16 β) (k0 : Q14 β) (k1 : Q15 β) (x0 x1 x2 x3 x4 x5 : Int) (x6 : List R) (x7 x8 x9 xa xb : Int) (xc : List R) (xd xe : Int) (xf xg xh xi xj xk xl xm : Bool) (xn : List R) (xo xp : Int) (xq xr xs : List R) (xt xu : Int) : Option β :=
    match (A.cm .lss xu xt) with
    | true => (match (A.ix xu (A.len xs)) with
      | some xv => (match (B.okE [Sh.s] false xs xv) with
        | true => (match (A.cm .gtr (A.on (A.ssz (B.cs xs xv 0))) 100) with
          | true => (k0 x0 x1 x2 x3 x4 x5 x6 x7 x8 x9 xa xb xc xd xe xf xg xh xi xj xk xl xm xn xo xp xq xr false)
          | false => (l11_4_0 k0 k1 x0 x1 x2 x3 x4 x5 x6 x7 x8 x9 xa xb xc xd xe xf xg xh xi xj xk xl xm xn xo xp xq xr xs xt (A.ar .add .i64 xu 1)))
        | false => none)
      | none => none)
    | false => (k1 x0 x1 x2 x3 x4 x5 x6 x7 x8 x9 xa xb xc xd xe xf xg xh xi xj xk xl xm xn xo xp xq xr)
def L11_4_0 {β : Type} (A : Pr) (B : Pk) (N : Nat) : Nat → (Q14 β) → (Q15 β) → Q16 β
  | 0, _, _, _, _, _, _, _, _, _, _, _, _, _, _, _, _, _, _, _, _, _, _, _, _, _, _, _, _, _, _, _, _, _ => none
  | n + 1, k0, k1, x0, x1, x2, x3, x4, x5, x6, x7, x8, x9, xa, xb, xc, xd, xe, xf, xg, xh, xi, xj, xk, xl, xm, xn, xo, xp, xq, xr, xs, xt, xu =>
    GL11_4_0 A B (L11_4_0 A B N n) k0 k1 x0 x1 x2 x3 x4 x5 x6 x7 x8 x9 xa xb xc xd xe xf xg xh xi xj xk xl xm xn xo xp xq xr xs xt xu
def P45 : List PT := [.us 1, (.bx [pI, pI, pI, pI, pI, pI, (.r (.ro 4)), pI, pI, pI, pI, pI, (.r (.ro 2)), pI, pI, pB, pB, pB, pB, pB, pB, pB, pB, (.r (.ro 1)), pI, pI, (.r (.ro 1)), (.r (.ro 1))]), pB, .us 75]
def S45 (x0 x1 x2 x3 x4 x5 : Int) (x6 : List R) (x7 x8 x9 xa xb : Int) (xc : List R) (xd xe : Int) (xf xg xh xi xj xk xl xm : Bool) (xn : List R) (xo xp : Int) (xq xr : List R) (xs : Bool) : List T := (T.u :: (T.bx [(tI x0), (tI x1), (tI x2), (tI x3), (tI x4), (tI x5), (T.r (R.ro 4 x6)), (tI x7), (tI x8), (tI x9), (tI xa), (tI xb), (T.r (R.ro 2 xc)), (tI xd), (tI xe), (tB xf), (tB xg), (tB xh), (tB xi), (tB xj), (tB xk), (tB xl), (tB xm), (T.r (R.ro 1 xn)), (tI xo), (tI xp), (T.r (R.ro 1 xq)), (T.r (R.ro 1 xr))]) :: (tB xs) :: T.u :: T.u :: T.u :: T.u :: T.u :: T.u :: T.u :: T.u :: T.u :: T.u :: T.u :: T.u :: T.u :: T.u :: T.u :: T.u :: T.u :: T.u :: T.u :: T.u :: T.u :: T.u :: T.u :: T.u :: T.u :: T.u :: T.u :: T.u :: T.u :: T.u :: T.u :: T.u :: T.u :: T.u :: T.u :: T.u :: T.u :: T.u :: T.u :: T.u :: T.u :: T.u :: T.u :: T.u :: T.u :: T.u :: T.u :: T.u :: T.u :: T.u :: T.u :: T.u :: T.u :: T.u :: T.u :: T.u :: T.u :: T.u :: T.u :: T.u :: T.u :: T.u :: T.u :: T.u :: T.u :: T.u :: T.u :: T.u :: T.u :: T.u :: T.u :: T.u :: T.u :: T.u :: T.u :: [])
def P46 : List PT := [.us 1, (.bx [pI, pI, pI, pI, pI, pI, (.r (.ro 4)), pI, pI, pI, pI, pI, (.r (.ro 2)), pI, pI, pB, pB, pB, pB, pB, pB, pB, pB, (.r (.ro 1)), pI, pI, (.r (.ro 1)), (.r (.ro 1))]), .us 76]
def S46 (x0 x1 x2 x3 x4 x5 : Int) (x6 : List R) (x7 x8 x9 xa xb : Int) (xc : List R) (xd xe : Int) (xf xg xh xi xj xk xl xm : Bool) (xn : List R) (xo xp : Int) (xq xr : List R) : List T := (T.u :: (T.bx [(tI x0), (tI x1), (tI x2), (tI x3), (tI x4), (tI x5), (T.r (R.ro 4 x6)), (tI x7), (tI x8), (tI x9), (tI xa), (tI xb), (T.r (R.ro 2 xc)), (tI xd), (tI xe), (tB xf), (tB xg), (tB xh), (tB xi), (tB xj), (tB xk), (tB xl), (tB xm), (T.r (R.ro 1 xn)), (tI xo), (tI xp), (T.r (R.ro 1 xq)), (T.r (R.ro 1 xr))]) :: T.u :: T.u :: T.u :: T.u :: T.u :: T.u :: T.u :: T.u :: T.u :: T.u :: T.u :: T.u :: T.u :: T.u :: T.u :: T.u :: T.u :: T.u :: T.u :: T.u :: T.u :: T.u :: T.u :: T.u :: T.u :: T.u :: T.u :: T.u :: T.u :: T.u :: T.u :: T.u :: T.u :: T.u :: T.u :: T.u :: T.u :: T.u :: T.u :: T.u :: T.u :: T.u :: T.u :: T.u :: T.u :: T.u :: T.u :: T.u :: T.u :: T.u :: T.u :: T.u :: T.u :: T.u :: T.u :: T.u :: T.u :: T.u :: T.u :: T.u :: T.u :: T.u :: T.u :: T.u :: T.u :: T.u :: T.u :: T.u :: T.u :: T.u :: T.u :: T.u :: T.u :: T.u :: T.u :: T.u :: [])
def P47 : List PT := [.us 1, (.bx [pI, pI, pI, pI, pI, pI, (.r (.ro 4)), pI, pI, pI, pI, pI, (.r (.ro 2)), pI, pI, pB, pB, pB, pB, pB, pB, pB, pB, (.r (.ro 1)), pI, pI, (.r (.ro 1)), (.r (.ro 1))]), .us 27, (.r (.ro 1)), pI, pI, .us 46]
noncomputable def ML11_4 {β : Type} (l11_4_0 : (Q14 β) → (Q15 β) → Q16 β) (s : List T) : Option ((Ex → List T → Option β) → Option β) :=
  match gTs P47 (clean ((Hn 11).lp 4).1 s) [] with
  | some (.i x0 :: .i x1 :: .i x2 :: .i x3 :: .i x4 :: .i x5 :: .l x6 :: .i x7 :: .i x8 :: .i x9 :: .i xa :: .i xb :: .l xc :: .i xd :: .i xe :: .b xf :: .b xg :: .b xh :: .b xi :: .b xj :: .b xk :: .b xl :: .b xm :: .l xn :: .i xo :: .i xp :: .l xq :: .l xr :: .l xs :: .i xt :: .i xu :: []) => some fun kk => l11_4_0 (fun xv xw xx xy xz x10 x11 x12 x13 x14 x15 x16 x17 x18 x19 x1a x1b x1c x1d x1e x1f x1g x1h x1i x1j x1k x1l x1m x1n => kk Ex.rt (S45 xv xw xx xy xz x10 x11 x12 x13 x14 x15 x16 x17 x18 x19 x1a x1b x1c x1d x1e x1f x1g x1h x1i x1j x1k x1l x1m x1n)) (fun x1o x1p x1q x1r x1s x1t x1u x1v x1w x1x x1y x1z x20 x21 x22 x23 x24 x25 x26 x27 x28 x29 x2a x2b x2c x2d x2e x2f => kk (Ex.ex 0) (S46 x1o x1p x1q x1r x1s x1t x1u x1v x1w x1x x1y x1z x20 x21 x22 x23 x24 x25 x26 x27 x28 x29 x2a x2b x2c x2d x2e x2f)) x0 x1 x2 x3 x4 x5 x6 x7 x8 x9 xa xb xc xd xe xf xg xh xi xj xk xl xm xn xo xp xq xr xs xt xu
  | _ => none
theorem e11_4_0 {β : Type} (A : Pr) (B : Pk) (l11_4_0 : (Q14 β) → (Q15 β) → Q16 β) (x0 x1 x2 x3 x4 x5 : Int) (x6 : List R) (x7 x8 x9 xa xb : Int) (xc : List R) (xd xe : Int) (xf xg xh xi xj xk xl xm : Bool) (xn : List R) (xo xp : Int) (xq xr xs : List R) (xt xu : Int) (kk : Ex → List T → Option β) :
    uTs P47 (.i x0 :: .i x1 :: .i x2 :: .i x3 :: .i x4 :: .i x5 :: .l x6 :: .i x7 :: .i x8 :: .i x9 :: .i xa :: .i xb :: .l xc :: .i xd :: .i xe :: .b xf :: .b xg :: .b xh :: .b xi :: .b xj :: .b xk :: .b xl :: .b xm :: .l xn :: .i xo :: .i xp :: .l xq :: .l xr :: .l xs :: .i xt :: .i xu :: []) (fun s _ => evK (mkK Tryz.prog A B [] [] (Hn 11).pt []) X11_4 s (fun e s' => match e with
      | .nm => (match ML11_4 l11_4_0 s' with | some h => h kk | none => none)
      | .ex m => kk (.ex m) (clean ((Hn 11).lp (firstReg X11_4)).2 s')
      | .rt => kk .rt (clean ((Hn 11).lp (firstReg X11_4)).2 s'))) = GL11_4_0 A B l11_4_0 (fun xv xw xx xy xz x10 x11 x12 x13 x14 x15 x16 x17 x18 x19 x1a x1b x1c x1d x1e x1f x1g x1h x1i x1j x1k x1l x1m x1n => kk Ex.rt (S45 xv xw xx xy xz x10 x11 x12 x13 x14 x15 x16 x17 x18 x19 x1a x1b x1c x1d x1e x1f x1g x1h x1i x1j x1k x1l x1m x1n)) (fun x1o x1p x1q x1r x1s x1t x1u x1v x1w x1x x1y x1z x20 x21 x22 x23 x24 x25 x26 x27 x28 x29 x2a x2b x2c x2d x2e x2f => kk (Ex.ex 0) (S46 x1o x1p x1q x1r x1s x1t x1u x1v x1w x1x x1y x1z x20 x21 x22 x23 x24 x25 x26 x27 x28 x29 x2a x2b x2c x2d x2e x2f)) x0 x1 x2 x3 x4 x5 x6 x7 x8 x9 xa xb xc xd xe xf xg xh xi xj xk xl xm xn xo xp xq xr xs xt xu := by kernel_rfl
theorem ol11_4 {β : Type} (N : Nat) : ∀ n, SndL (β := β) Tryz.prog Hn (Hn 11) X11_4 (ML11_4 (L11_4_0 re rk N n))
  | 0 => by
    intro s h kk r ha hr
    unfold ML11_4 at ha
    split at ha
    · cases ha; cases hr
    · cases ha
  | n + 1 => by
    have ih := ol11_4 (β := β) N n
    intro s h kk r ha hr
    unfold ML11_4 at ha
    split at ha
    · rename_i hs
      cases ha
      have hk := via_pat hs ((e11_4_0 re rk (L11_4_0 re rk N n) _ _ _ _ _ _ _ _ _ _ _ _ _ _ _ _ _ _ _ _ _ _ _ _ _ _ _ _ _ _ _ kk).trans hr)
      exact round_ok (show SndAll Tryz.prog Hn [] from trivial) (spots := []) (by kernel_rfl) trivial ih (hd := clean ((Hn 11).lp 4).1 s) (by rw [i11_4]) hk
    · cases ha
noncomputable def X11_16 : Code := atF Tryz.f11 [true, true, true, true, false, true, false, false, true, true, false, false, true, true, false, true, false, false]
theorem i11_16 : firstReg X11_16 = 16 := by kernel_rfl
def GL11_16_0 {β : Type} (A : Pr) (B : Pk) (l11_16_0 : (Bool → Int → List R → Int → Int → Option β) → (Int → List R → Int → Int → Option β) → Int → List R → Int → Int → List R → Int → Int → Option β) (k0 : Bool → Int → List R → Int → Int → Option β) (k1 : Int → List R → Int → Int → Option β) (x0 : Int) (x1 : List R) (x2 x3 : Int) (x4 : List R) (x5 x6 : Int) : Option β :=
    match (A.cm .lss x6 x5) with
    | true => (match (A.ix x6 (A.len x4)) with
      | some x7 => (match (B.okE [(Sh.i .i64), (Sh.i .i64), (Sh.i .i64), (Sh.i .i64), (Sh.sl 1 (Sh.i .u8)), (Sh.sl 1 (Sh.i .u8))] true x4 x7) with
        | true => (match (A.cm .gtr (A.on (A.len (B.cl x4 x7 4))) 5000) with
          | true => (k0 false x0 x1 x2 x3)
          | false => (match (A.cm .gtr (A.on (A.len (B.cl x4 x7 5))) 5000) with
            | true => (k0 false x0 x1 x2 x3)
            | false => (l11_16_0 k0 k1 (A.ar .add .i64 x0 (A.ar .add .i64 (A.on (A.len (B.cl x4 x7 4))) (A.on (A.len (B.cl x4 x7 5))))) x1 x2 x3 x4 x5 (A.ar .add .i64 x6 1))))
        | false => none)
      | none => none)
    | false => (k1 x0 x1 x2 x3)
def L11_16_0 {β : Type} (A : Pr) (B : Pk) (N : Nat) : Nat → (Bool → Int → List R → Int → Int → Option β) → (Int → List R → Int → Int → Option β) → Int → List R → Int → Int → List R → Int → Int → Option β
  | 0, _, _, _, _, _, _, _, _, _ => none
  | n + 1, k0, k1, x0, x1, x2, x3, x4, x5, x6 =>
    GL11_16_0 A B (L11_16_0 A B N n) k0 k1 x0 x1 x2 x3 x4 x5 x6
def P48 : List PT := [.us 2, pB, .us 2, pI, .us 34, (.r (.ro 1)), pI, pI, .us 35]
def S48 (x0 : Bool) (x1 : Int) (x2 : List R) (x3 x4 : Int) : List T := (T.u :: T.u :: (tB x0) :: T.u :: T.u :: (tI x1) :: T.u :: T.u :: T.u :: T.u :: T.u :: T.u :: T.u :: T.u :: T.u :: T.u :: T.u :: T.u :: T.u :: T.u :: T.u :: T.u :: T.u :: T.u :: T.u :: T.u :: T.u :: T.u :: T.u :: T.u :: T.u :: T.u :: T.u :: T.u :: T.u :: T.u :: T.u :: T.u :: T.u :: T.u :: (T.r (R.ro 1 x2)) :: (tI x3) :: (tI x4) :: T.u :: T.u :: T.u :: T.u :: T.u :: T.u :: T.u :: T.u :: T.u :: T.u :: T.u :: T.u :: T.u :: T.u :: T.u :: T.u :: T.u :: T.u :: T.u :: T.u :: T.u :: T.u :: T.u :: T.u :: T.u :: T.u :: T.u :: T.u :: T.u :: T.u :: T.u :: T.u :: T.u :: T.u :: T.u :: [])
def P49 : List PT := [.us 5, pI, .us 34, (.r (.ro 1)), pI, pI, .us 35]
def S49 (x0 : Int) (x1 : List R) (x2 x3 : Int) : List T := (T.u :: T.u :: T.u :: T.u :: T.u :: (tI x0) :: T.u :: T.u :: T.u :: T.u :: T.u :: T.u :: T.u :: T.u :: T.u :: T.u :: T.u :: T.u :: T.u :: T.u :: T.u :: T.u :: T.u :: T.u :: T.u :: T.u :: T.u :: T.u :: T.u :: T.u :: T.u :: T.u :: T.u :: T.u :: T.u :: T.u :: T.u :: T.u :: T.u :: T.u :: (T.r (R.ro 1 x1)) :: (tI x2) :: (tI x3) :: T.u :: T.u :: T.u :: T.u :: T.u :: T.u :: T.u :: T.u :: T.u :: T.u :: T.u :: T.u :: T.u :: T.u :: T.u :: T.u :: T.u :: T.u :: T.u :: T.u :: T.u :: T.u :: T.u :: T.u :: T.u :: T.u :: T.u :: T.u :: T.u :: T.u :: T.u :: T.u :: T.u :: T.u :: T.u :: [])
def P50 : List PT := [.us 5, pI, .us 34, (.r (.ro 1)), pI, pI, .us 6, (.r (.ro 6)), pI, pI, .us 26]
noncomputable def ML11_16 {β : Type} (l11_16_0 : (Bool → Int → List R → Int → Int → Option β) → (Int → List R → Int → Int → Option β) → Int → List R → Int → Int → List R → Int → Int → Option β) (s : List T) : Option ((Ex → List T → Option β) → Option β) :=
  match gTs P50 (clean ((Hn 11).lp 16).1 s) [] with
  | some [.i x0, .l x1, .i x2, .i x3, .l x4, .i x5, .i x6] => some fun kk => l11_16_0 (fun x7 x8 x9 xa xb => kk Ex.rt (S48 x7 x8 x9 xa xb)) (fun xc xd xe xf => kk (Ex.ex 4) (S49 xc xd xe xf)) x0 x1 x2 x3 x4 x5 x6
  | _ => none
theorem e11_16_0 {β : Type} (A : Pr) (B : Pk) (l11_16_0 : (Bool → Int → List R → Int → Int → Option β) → (Int → List R → Int → Int → Option β) → Int → List R → Int → Int → List R → Int → Int → Option β) (x0 : Int) (x1 : List R) (x2 x3 : Int) (x4 : List R) (x5 x6 : Int) (kk : Ex → List T → Option β) :
    uTs P50 [.i x0, .l x1, .i x2, .i x3, .l x4, .i x5, .i x6] (fun s _ => evK (mkK Tryz.prog A B [] [] (Hn 11).pt []) X11_16 s (fun e s' => match e with
      | .nm => (match ML11_16 l11_16_0 s' with | some h => h kk | none => none)
      | .ex m => kk (.ex m) (clean ((Hn 11).lp (firstReg X11_16)).2 s')
      | .rt => kk .rt (clean ((Hn 11).lp (firstReg X11_16)).2 s'))) = GL11_16_0 A B l11_16_0 (fun x7 x8 x9 xa xb => kk Ex.rt (S48 x7 x8 x9 xa xb)) (fun xc xd xe xf => kk (Ex.ex 4) (S49 xc xd xe xf)) x0 x1 x2 x3 x4 x5 x6 := by kernel_rfl
theorem ol11_16 {β : Type} (N : Nat) : ∀ n, SndL (β := β) Tryz.prog Hn (Hn 11) X11_16 (ML11_16 (L11_16_0 re rk N n))
  | 0 => by
    intro s h kk r ha hr
    unfold ML11_16 at ha
    split at ha
    · cases ha; cases hr
    · cases ha
  | n + 1 => by
    have ih := ol11_16 (β := β) N n
    intro s h kk r ha hr
    unfold ML11_16 at ha
    split at ha
    · rename_i hs
      cases ha
      have hk := via_pat hs ((e11_16_0 re rk (L11_16_0 re rk N n) _ _ _ _ _ _ _ kk).trans hr)
      exact round_ok (show SndAll Tryz.prog Hn [] from trivial) (spots := []) (by kernel_rfl) trivial ih (hd := clean ((Hn 11).lp 16).1 s) (by rw [i11_16]) hk
    · cases ha
noncomputable def X11_11 : Code := atF Tryz.f11 [true, true, true, true, false, true, false, false]
theorem i11_11 : firstReg X11_11 = 11 := by kernel_rfl
def GL11_11_0 {β : Type} (A : Pr) (B : Pk) (l11_16_0 : (Bool → Int → List R → Int → Int → Option β) → (Int → List R → Int → Int → Option β) → Int → List R → Int → Int → List R → Int → Int → Option β) (l11_11_0 : (Bool → Option β) → (Option β) → Int → List R → Int → Int → Option β) (k0 : Bool → Option β) (k1 : Option β) (x0 : Int) (x1 : List R) (x2 x3 : Int) : Option β :=
    match (A.cm .lss x3 x2) with
    | true => (match (A.ix x3 (A.len x1)) with
      | some x4 => (match (B.okE [(Sh.sl 6 (Sh.ag [(Sh.i .i64), (Sh.i .i64), (Sh.i .i64), (Sh.i .i64), (Sh.sl 1 (Sh.i .u8)), (Sh.sl 1 (Sh.i .u8))]))] false x1 x4) with
        | true => (match (A.cm .gtr (A.on (A.len (B.cl x1 x4 0))) 500) with
          | true => (k0 false)
          | false => (l11_16_0 (fun x5 x6 x7 x8 x9 =>
            k0 x5) (fun xa xb xc xd =>
            match (A.cm .gtr xa 20000) with
              | true => (k0 false)
              | false => (l11_11_0 k0 k1 xa xb xc (A.ar .add .i64 xd 1))) x0 x1 x2 x3 (B.cl x1 x4 0) (A.on (A.len (B.cl x1 x4 0))) 0))
        | false => none)
      | none => none)
    | false => k1
def L11_11_0 {β : Type} (A : Pr) (B : Pk) (N : Nat) : Nat → (Bool → Option β) → (Option β) → Int → List R → Int → Int → Option β
  | 0, _, _, _, _, _, _ => none
  | n + 1, k0, k1, x0, x1, x2, x3 =>
    GL11_11_0 A B (L11_16_0 A B N N) (L11_11_0 A B N n) k0 k1 x0 x1 x2 x3
def P51 : List PT := [.us 2, pB, .us 75]
def S51 (x0 : Bool) : List T := (T.u :: T.u :: (tB x0) :: T.u :: T.u :: T.u :: T.u :: T.u :: T.u :: T.u :: T.u :: T.u :: T.u :: T.u :: T.u :: T.u :: T.u :: T.u :: T.u :: T.u :: T.u :: T.u :: T.u :: T.u :: T.u :: T.u :: T.u :: T.u :: T.u :: T.u :: T.u :: T.u :: T.u :: T.u :: T.u :: T.u :: T.u :: T.u :: T.u :: T.u :: T.u :: T.u :: T.u :: T.u :: T.u :: T.u :: T.u :: T.u :: T.u :: T.u :: T.u :: T.u :: T.u :: T.u :: T.u :: T.u :: T.u :: T.u :: T.u :: T.u :: T.u :: T.u :: T.u :: T.u :: T.u :: T.u :: T.u :: T.u :: T.u :: T.u :: T.u :: T.u :: T.u :: T.u :: T.u :: T.u :: T.u :: T.u :: [])
def P52 : List PT := [.us 78]
def S52  : List T := (T.u :: T.u :: T.u :: T.u :: T.u :: T.u :: T.u :: T.u :: T.u :: T.u :: T.u :: T.u :: T.u :: T.u :: T.u :: T.u :: T.u :: T.u :: T.u :: T.u :: T.u :: T.u :: T.u :: T.u :: T.u :: T.u :: T.u :: T.u :: T.u :: T.u :: T.u :: T.u :: T.u :: T.u :: T.u :: T.u :: T.u :: T.u :: T.u :: T.u :: T.u :: T.u :: T.u :: T.u :: T.u :: T.u :: T.u :: T.u :: T.u :: T.u :: T.u :: T.u :: T.u :: T.u :: T.u :: T.u :: T.u :: T.u :: T.u :: T.u :: T.u :: T.u :: T.u :: T.u :: T.u :: T.u :: T.u :: T.u :: T.u :: T.u :: T.u :: T.u :: T.u :: T.u :: T.u :: T.u :: T.u :: T.u :: [])
noncomputable def ML11_11 {β : Type} (l11_11_0 : (Bool → Option β) → (Option β) → Int → List R → Int → Int → Option β) (s : List T) : Option ((Ex → List T → Option β) → Option β) :=
  match gTs P49 (clean ((Hn 11).lp 11).1 s) [] with
  | some [.i x0, .l x1, .i x2, .i x3] => some fun kk => l11_11_0 (fun x4 => kk Ex.rt (S51 x4)) (kk (Ex.ex 2) (S52)) x0 x1 x2 x3
  | _ => none
theorem e11_11_0 {β : Type} (A : Pr) (B : Pk) (l11_16_0 : (Bool → Int → List R → Int → Int → Option β) → (Int → List R → Int → Int → Option β) → Int → List R → Int → Int → List R → Int → Int → Option β) (l11_11_0 : (Bool → Option β) → (Option β) → Int → List R → Int → Int → Option β) (x0 : Int) (x1 : List R) (x2 x3 : Int) (kk : Ex → List T → Option β) :
    uTs P49 [.i x0, .l x1, .i x2, .i x3] (fun s _ => evK (mkK Tryz.prog A B [] [(16, ML11_16 l11_16_0)] (Hn 11).pt []) X11_11 s (fun e s' => match e with
      | .nm => (match ML11_11 l11_11_0 s' with | some h => h kk | none => none)
      | .ex m => kk (.ex m) (clean ((Hn 11).lp (firstReg X11_11)).2 s')
      | .rt => kk .rt (clean ((Hn 11).lp (firstReg X11_11)).2 s'))) = GL11_11_0 A B l11_16_0 l11_11_0 (fun x4 => kk Ex.rt (S51 x4)) (kk (Ex.ex 2) (S52)) x0 x1 x2 x3 := by kernel_rfl
theorem ol11_11 {β : Type} (N : Nat) : ∀ n, SndL (β := β) Tryz.prog Hn (Hn 11) X11_11 (ML11_11 (L11_11_0 re rk N n))
  | 0 => by
    intro s h kk r ha hr
    unfold ML11_11 at ha
    split at ha
    · cases ha; cases hr
    · cases ha
  | n + 1 => by
    have ih := ol11_11 (β := β) N n
    intro s h kk r ha hr
    unfold ML11_11 at ha
    split at ha
    · rename_i hs
      cases ha
      have hk := via_pat hs ((e11_11_0 re rk (L11_16_0 re rk N N) (L11_11_0 re rk N n) _ _ _ _ kk).trans hr)
      exact round_ok (show SndAll Tryz.prog Hn [] from trivial) (spots := [.lp X11_16]) (by kernel_rfl) ⟨cut_lp (id := 16) i11_16 (ol11_16 N N) (fun s kk => by kernel_rfl), trivial⟩ ih (hd := clean ((Hn 11).lp 11).1 s) (by rw [i11_11]) hk
    · cases ha
def G11_0 {β : Type} (A : Pr) (B : Pk) (f18_0 : Int → Int → Int → Int → Int → Int → List R → Int → Int → Int → Int → Int → List R → Int → Int → Bool → Bool → Bool → Bool → Bool → Bool → Bool → Bool → List R → Int → Int → (Bool → Option β) → Option β) (l11_4_0 : (Q14 β) → (Q15 β) → Q16 β) (l11_11_0 : (Bool → Option β) → (Option β) → Int → List R → Int → Int → Option β) (x0 x1 x2 x3 x4 x5 : Int) (x6 : List R) (x7 x8 x9 xa xb : Int) (xc : List R) (xd xe : Int) (xf xg xh xi xj xk xl xm : Bool) (xn : List R) (xo xp : Int) (xq xr : List R) (k0 : Bool → Option β) : Option β :=
    f18_0 x0 x1 x2 x3 x4 x5 x6 x7 x8 x9 xa xb xc xd xe xf xg xh xi xj xk xl xm xn xo xp (fun xs =>
    match (A.bn xs) with
      | true => (k0 false)
      | false => (match (A.cm .gtr (A.on (A.len xq)) 20) with
        | true => (k0 false)
        | false => (match (A.cm .gtr (A.on (A.len xr)) 20) with
          | true => (k0 false)
          | false => (l11_4_0 (fun xt xu xv xw xx xy xz x10 x11 x12 x13 x14 x15 x16 x17 x18 x19 x1a x1b x1c x1d x1e x1f x1g x1h x1i x1j x1k x1l =>
            k0 x1l) (fun x1m x1n x1o x1p x1q x1r x1s x1t x1u x1v x1w x1x x1y x1z x20 x21 x22 x23 x24 x25 x26 x27 x28 x29 x2a x2b x2c x2d =>
            l11_11_0 (fun x2e =>
              k0 x2e) (k0 true) 0 x2d (A.on (A.len x2d)) 0) x0 x1 x2 x3 x4 x5 x6 x7 x8 x9 xa xb xc xd xe xf xg xh xi xj xk xl xm xn xo xp xq xr xq (A.on (A.len xq)) 0))))
def F11_0 {β : Type} (A : Pr) (B : Pk) (N : Nat) (x0 x1 x2 x3 x4 x5 : Int) (x6 : List R) (x7 x8 x9 xa xb : Int) (xc : List R) (xd xe : Int) (xf xg xh xi xj xk xl xm : Bool) (xn : List R) (xo xp : Int) (xq xr : List R) (k0 : Bool → Option β) : Option β :=
  G11_0 A B (F18_0 A B N) (L11_4_0 A B N N) (L11_11_0 A B N N) x0 x1 x2 x3 x4 x5 x6 x7 x8 x9 xa xb xc xd xe xf xg xh xi xj xk xl xm xn xo xp xq xr k0
def P53 : List PT := [(.r (.a [(.i .i64), (.i .i64), (.i .i64), (.i .i64), (.i .i64), (.i .i64), (.ro 4), (.i .i64), (.i .i64), (.i .i64), (.i .i64), (.i .i64), (.ro 2), (.i .i64), (.i .i64), .b, .b, .b, .b, .b, .b, .b, .b, (.ro 1), (.i .i64), (.i .i64), (.ro 1), (.ro 1)]))]
def M11_0 {β : Type} (f11_0 : Int → Int → Int → Int → Int → Int → List R → Int → Int → Int → Int → Int → List R → Int → Int → Bool → Bool → Bool → Bool → Bool → Bool → Bool → Bool → List R → Int → Int → List R → List R → (Bool → Option β) → Option β) (a : List T) : Option ((T → List (List T) → Option β) → Option β) :=
  match gTs P53 a [] with
  | some [.i x0, .i x1, .i x2, .i x3, .i x4, .i x5, .l x6, .i x7, .i x8, .i x9, .i xa, .i xb, .l xc, .i xd, .i xe, .b xf, .b xg, .b xh, .b xi, .b xj, .b xk, .b xl, .b xm, .l xn, .i xo, .i xp, .l xq, .l xr] => some fun kk => f11_0 x0 x1 x2 x3 x4 x5 x6 x7 x8 x9 xa xb xc xd xe xf xg xh xi xj xk xl xm xn xo xp xq xr (fun xs => kk (tB xs) [])
  | _ => none
theorem e11_0 {β : Type} (A : Pr) (B : Pk) (f18_0 : Int → Int → Int → Int → Int → Int → List R → Int → Int → Int → Int → Int → List R → Int → Int → Bool → Bool → Bool → Bool → Bool → Bool → Bool → Bool → List R → Int → Int → (Bool → Option β) → Option β) (l11_4_0 : (Q14 β) → (Q15 β) → Q16 β) (l11_11_0 : (Bool → Option β) → (Option β) → Int → List R → Int → Int → Option β) (x0 x1 x2 x3 x4 x5 : Int) (x6 : List R) (x7 x8 x9 xa xb : Int) (xc : List R) (xd xe : Int) (xf xg xh xi xj xk xl xm : Bool) (xn : List R) (xo xp : Int) (xq xr : List R) (kk : T → List (List T) → Option β) :
    uTs P53 [.i x0, .i x1, .i x2, .i x3, .i x4, .i x5, .l x6, .i x7, .i x8, .i x9, .i xa, .i xb, .l xc, .i xd, .i xe, .b xf, .b xg, .b xh, .b xi, .b xj, .b xk, .b xl, .b xm, .l xn, .i xo, .i xp, .l xq, .l xr] (fun a _ => bodyK (mkK Tryz.prog A B [(18, M18_0 f18_0)] [(4, ML11_4 l11_4_0), (11, ML11_11 l11_11_0)] (Hn 11).pt []) Tryz.f11 a kk) = G11_0 A B f18_0 l11_4_0 l11_11_0 x0 x1 x2 x3 x4 x5 x6 x7 x8 x9 xa xb xc xd xe xf xg xh xi xj xk xl xm xn xo xp xq xr (fun xs => kk (tB xs) []) := by kernel_rfl
theorem o11_0 {β : Type} (N : Nat) : Snd (β := β) Tryz.prog Hn 11 (M11_0 (F11_0 re rk N)) := by
  intro a h kk r ha hr
  unfold M11_0 at ha
  split at ha
  · rename_i hs
    cases ha
    have hk := via_pat hs ((e11_0 re rk (F18_0 re rk N) (L11_4_0 re rk N N) (L11_11_0 re rk N N) _ _ _ _ _ _ _ _ _ _ _ _ _ _ _ _ _ _ _ _ _ _ _ _ _ _ _ _ kk).trans hr)
    exact fn_ok (f := 11) (fn := Tryz.f11) (H := Hn) (by kernel_rfl) (show SndAll Tryz.prog Hn [(18, M18_0 (F18_0 re rk N))] from ⟨o18_0 N, trivial⟩) (spots := [.lp X11_4, .lp X11_11]) (by kernel_rfl) ⟨cut_lp (id := 4) i11_4 (ol11_4 N N) (fun s kk => by kernel_rfl), cut_lp (id := 11) i11_11 (ol11_11 N N) (fun s kk => by kernel_rfl), trivial⟩ hk
  · cases ha
def M6_0 {β : Type} (a : List T) : Option ((T → List (List T) → Option β) → Option β) :=
  match a with
  | [] => some fun kk => kk (tB true) []
  | _ => none
theorem r6_0 : runF Tryz.prog re Hn 40 6 [] = some (T.r (R.b true), []) := by kernel_rfl
theorem o6_0 {β : Type} (N : Nat) : Snd (β := β) Tryz.prog Hn 6 M6_0 := by
  refine closed_ok r6_0 fun a h ha => ?_
  unfold M6_0 at ha
  split at ha
  · cases ha; exact ⟨rfl, rfl⟩
  · cases ha
noncomputable def X49_4 : Code := atF Tryz.f49 [true, true, false, true, false, false]
theorem i49_4 : firstReg X49_4 = 4 := by kernel_rfl
def GL49_4_0 {β : Type} (A : Pr) (B : Pk) (l49_4_0 : (List R → List R → Bool → Option β) → (List R → List R → Option β) → List R → List R → Int → Int → Option β) (k0 : List R → List R → Bool → Option β) (k1 : List R → List R → Option β) (x0 x1 : List R) (x2 x3 : Int) : Option β :=
    match (A.cm .lss x3 x2) with
    | true => (match (A.ix x3 (A.len x0)) with
      | some x4 => (match (B.okE [(Sh.i .i64), Sh.b, (Sh.i .i64), (Sh.i .i64)] true x0 x4) with
        | true => (match (A.ix x3 (A.len x1)) with
          | some x5 => (match (B.okE [(Sh.i .i64), Sh.b, (Sh.i .i64), (Sh.i .i64)] true x1 x5) with
            | true => (match (A.bn (A.ba (A.cm .eql (B.ci x0 x4 0) (B.ci x1 x5 0)) (A.ba (A.be (B.cb x0 x4 1) (B.cb x1 x5 1)) (A.ba (A.cm .eql (B.ci x0 x4 2) (B.ci x1 x5 2)) (A.ba (A.cm .eql (B.ci x0 x4 3) (B.ci x1 x5 3)) true))))) with
              | true => (k0 x0 x1 false)
              | false => (l49_4_0 k0 k1 x0 x1 x2 (A.ar .add .i64 x3 1)))
            | false => none)
          | none => none)
        | false => none)
      | none => none)
    | false => (k1 x0 x1)
def L49_4_0 {β : Type} (A : Pr) (B : Pk) (N : Nat) : Nat → (List R → List R → Bool → Option β) → (List R → List R → Option β) → List R → List R → Int → Int → Option β
  | 0, _, _, _, _, _, _ => none
  | n + 1, k0, k1, x0, x1, x2, x3 =>
    GL49_4_0 A B (L49_4_0 A B N n) k0 k1 x0 x1 x2 x3
def P54 : List PT := [(.r (.ro 4)), (.r (.ro 4)), .us 2, pB, .us 21]
def S54 (x0 x1 : List R) (x2 : Bool) : List T := [(T.r (R.ro 4 x0)), (T.r (R.ro 4 x1)), T.u, T.u, (tB x2), T.u, T.u, T.u, T.u, T.u, T.u, T.u, T.u, T.u, T.u, T.u, T.u, T.u, T.u, T.u, T.u, T.u, T.u, T.u, T.u, T.u]
def P55 : List PT := [(.r (.ro 4)), (.r (.ro 4)), .us 24]
def S55 (x0 x1 : List R) : List T := [(T.r (R.ro 4 x0)), (T.r (R.ro 4 x1)), T.u, T.u, T.u, T.u, T.u, T.u, T.u, T.u, T.u, T.u, T.u, T.u, T.u, T.u, T.u, T.u, T.u, T.u, T.u, T.u, T.u, T.u, T.u, T.u]
def P56 : List PT := [(.r (.ro 4)), (.r (.ro 4)), .us 10, pI, pI, .us 12]
noncomputable def ML49_4 {β : Type} (l49_4_0 : (List R → List R → Bool → Option β) → (List R → List R → Option β) → List R → List R → Int → Int → Option β) (s : List T) : Option ((Ex → List T → Option β) → Option β) :=
  match gTs P56 (clean ((Hn 49).lp 4).1 s) [] with
  | some [.l x0, .l x1, .i x2, .i x3] => some fun kk => l49_4_0 (fun x4 x5 x6 => kk Ex.rt (S54 x4 x5 x6)) (fun x7 x8 => kk (Ex.ex 0) (S55 x7 x8)) x0 x1 x2 x3
  | _ => none
theorem e49_4_0 {β : Type} (A : Pr) (B : Pk) (l49_4_0 : (List R → List R → Bool → Option β) → (List R → List R → Option β) → List R → List R → Int → Int → Option β) (x0 x1 : List R) (x2 x3 : Int) (kk : Ex → List T → Option β) :
    uTs P56 [.l x0, .l x1, .i x2, .i x3] (fun s _ => evK (mkK Tryz.prog A B [] [] (Hn 49).pt []) X49_4 s (fun e s' => match e with
      | .nm => (match ML49_4 l49_4_0 s' with | some h => h kk | none => none)
      | .ex m => kk (.ex m) (clean ((Hn 49).lp (firstReg X49_4)).2 s')
      | .rt => kk .rt (clean ((Hn 49).lp (firstReg X49_4)).2 s'))) = GL49_4_0 A B l49_4_0 (fun x4 x5 x6 => kk Ex.rt (S54 x4 x5 x6)) (fun x7 x8 => kk (Ex.ex 0) (S55 x7 x8)) x0 x1 x2 x3 := by kernel_rfl
theorem ol49_4 {β : Type} (N : Nat) : ∀ n, SndL (β := β) Tryz.prog Hn (Hn 49) X49_4 (ML49_4 (L49_4_0 re rk N n))
  | 0 => by
    intro s h kk r ha hr
    unfold ML49_4 at ha
    split at ha
    · cases ha; cases hr
    · cases ha
  | n + 1 => by
    have ih := ol49_4 (β := β) N n
    intro s h kk r ha hr
    unfold ML49_4 at ha
    split at ha
    · rename_i hs
      cases ha
      have hk := via_pat hs ((e49_4_0 re rk (L49_4_0 re rk N n) _ _ _ _ kk).trans hr)
      exact round_ok (show SndAll Tryz.prog Hn [] from trivial) (spots := []) (by kernel_rfl) trivial ih (hd := clean ((Hn 49).lp 4).1 s) (by rw [i49_4]) hk
    · cases ha
def G49_0 {β : Type} (A : Pr) (B : Pk) (l49_4_0 : (List R → List R → Bool → Option β) → (List R → List R → Option β) → List R → List R → Int → Int → Option β) (x0 x1 : List R) (k0 : Bool → Option β) : Option β :=
    match (A.cm .neq (A.on (A.len x0)) (A.on (A.len x1))) with
    | true => (k0 false)
    | false => (l49_4_0 (fun x2 x3 x4 =>
      k0 x4) (fun x5 x6 =>
      k0 true) x0 x1 (A.on (A.len x0)) 0)
def F49_0 {β : Type} (A : Pr) (B : Pk) (N : Nat) (x0 x1 : List R) (k0 : Bool → Option β) : Option β :=
  G49_0 A B (L49_4_0 A B N N) x0 x1 k0
def P57 : List PT := [(.r (.ro 4)), (.r (.ro 4))]
def M49_0 {β : Type} (f49_0 : List R → List R → (Bool → Option β) → Option β) (a : List T) : Option ((T → List (List T) → Option β) → Option β) :=
  match gTs P57 a [] with
  | some [.l x0, .l x1] => some fun kk => f49_0 x0 x1 (fun x2 => kk (tB x2) [])
  | _ => none
theorem e49_0 {β : Type} (A : Pr) (B : Pk) (l49_4_0 : (List R → List R → Bool → Option β) → (List R → List R → Option β) → List R → List R → Int → Int → Option β) (x0 x1 : List R) (kk : T → List (List T) → Option β) :
    uTs P57 [.l x0, .l x1] (fun a _ => bodyK (mkK Tryz.prog A B [] [(4, ML49_4 l49_4_0)] (Hn 49).pt []) Tryz.f49 a kk) = G49_0 A B l49_4_0 x0 x1 (fun x2 => kk (tB x2) []) := by kernel_rfl
theorem o49_0 {β : Type} (N : Nat) : Snd (β := β) Tryz.prog Hn 49 (M49_0 (F49_0 re rk N)) := by
  intro a h kk r ha hr
  unfold M49_0 at ha
  split at ha
  · rename_i hs
    cases ha
    have hk := via_pat hs ((e49_0 re rk (L49_4_0 re rk N N) _ _ kk).trans hr)
    exact fn_ok (f := 49) (fn := Tryz.f49) (H := Hn) (by kernel_rfl) (show SndAll Tryz.prog Hn [] from trivial) (spots := [.lp X49_4]) (by kernel_rfl) ⟨cut_lp (id := 4) i49_4 (ol49_4 N N) (fun s kk => by kernel_rfl), trivial⟩ hk
  · cases ha
noncomputable def X50_4 : Code := atF Tryz.f50 [true, true, false, true, false, false]
theorem i50_4 : firstReg X50_4 = 4 := by kernel_rfl
def GL50_4_0 {β : Type} (A : Pr) (B : Pk) (l50_4_0 : (List R → List R → Bool → Option β) → (List R → List R → Option β) → List R → List R → Int → Int → Option β) (k0 : List R → List R → Bool → Option β) (k1 : List R → List R → Option β) (x0 x1 : List R) (x2 x3 : Int) : Option β :=
    match (A.cm .lss x3 x2) with
    | true => (match (A.ix x3 (A.len x0)) with
      | some x4 => (match (B.okE [(Sh.i .i64), (Sh.i .i64)] true x0 x4) with
        | true => (match (A.ix x3 (A.len x1)) with
          | some x5 => (match (B.okE [(Sh.i .i64), (Sh.i .i64)] true x1 x5) with
            | true => (match (A.bn (A.ba (A.cm .eql (B.ci x0 x4 0) (B.ci x1 x5 0)) (A.ba (A.cm .eql (B.ci x0 x4 1) (B.ci x1 x5 1)) true))) with
              | true => (k0 x0 x1 false)
              | false => (l50_4_0 k0 k1 x0 x1 x2 (A.ar .add .i64 x3 1)))
            | false => none)
          | none => none)
        | false => none)
      | none => none)
    | false => (k1 x0 x1)
def L50_4_0 {β : Type} (A : Pr) (B : Pk) (N : Nat) : Nat → (List R → List R → Bool → Option β) → (List R → List R → Option β) → List R → List R → Int → Int → Option β
  | 0, _, _, _, _, _, _ => none
  | n + 1, k0, k1, x0, x1, x2, x3 =>
    GL50_4_0 A B (L50_4_0 A B N n) k0 k1 x0 x1 x2 x3
def P58 : List PT := [(.r (.ro 2)), (.r (.ro 2)), .us 2, pB, .us 21]
def S58 (x0 x1 : List R) (x2 : Bool) : List T := [(T.r (R.ro 2 x0)), (T.r (R.ro 2 x1)), T.u, T.u, (tB x2), T.u, T.u, T.u, T.u, T.u, T.u, T.u, T.u, T.u, T.u, T.u, T.u, T.u, T.u, T.u, T.u, T.u, T.u, T.u, T.u, T.u]
def P59 : List PT := [(.r (.ro 2)), (.r (.ro 2)), .us 24]
def S59 (x0 x1 : List R) : List T := [(T.r (R.ro 2 x0)), (T.r (R.ro 2 x1)), T.u, T.u, T.u, T.u, T.u, T.u, T.u, T.u, T.u, T.u, T.u, T.u, T.u, T.u, T.u, T.u, T.u, T.u, T.u, T.u, T.u, T.u, T.u, T.u]
def P60 : List PT := [(.r (.ro 2)), (.r (.ro 2)), .us 10, pI, pI, .us 12]
noncomputable def ML50_4 {β : Type} (l50_4_0 : (List R → List R → Bool → Option β) → (List R → List R → Option β) → List R → List R → Int → Int → Option β) (s : List T) : Option ((Ex → List T → Option β) → Option β) :=
  match gTs P60 (clean ((Hn 50).lp 4).1 s) [] with
  | some [.l x0, .l x1, .i x2, .i x3] => some fun kk => l50_4_0 (fun x4 x5 x6 => kk Ex.rt (S58 x4 x5 x6)) (fun x7 x8 => kk (Ex.ex 0) (S59 x7 x8)) x0 x1 x2 x3
  | _ => none
theorem e50_4_0 {β : Type} (A : Pr) (B : Pk) (l50_4_0 : (List R → List R → Bool → Option β) → (List R → List R → Option β) → List R → List R → Int → Int → Option β) (x0 x1 : List R) (x2 x3 : Int) (kk : Ex → List T → Option β) :
    uTs P60 [.l x0, .l x1, .i x2, .i x3] (fun s _ => evK (mkK Tryz.prog A B [] [] (Hn 50).pt []) X50_4 s (fun e s' => match e with
      | .nm => (match ML50_4 l50_4_0 s' with | some h => h kk | none => none)
      | .ex m => kk (.ex m) (clean ((Hn 50).lp (firstReg X50_4)).2 s')
      | .rt => kk .rt (clean ((Hn 50).lp (firstReg X50_4)).2 s'))) = GL50_4_0 A B l50_4_0 (fun x4 x5 x6 => kk Ex.rt (S58 x4 x5 x6)) (fun x7 x8 => kk (Ex.ex 0) (S59 x7 x8)) x0 x1 x2 x3 := by kernel_rfl
theorem ol50_4 {β : Type} (N : Nat) : ∀ n, SndL (β := β) Tryz.prog Hn (Hn 50) X50_4 (ML50_4 (L50_4_0 re rk N n))
  | 0 => by
    intro s h kk r ha hr
    unfold ML50_4 at ha
    split at ha
    · cases ha; cases hr
    · cases ha
  | n + 1 => by
    have ih := ol50_4 (β := β) N n
    intro s h kk r ha hr
    unfold ML50_4 at ha
    split at ha
    · rename_i hs
      cases ha
      have hk := via_pat hs ((e50_4_0 re rk (L50_4_0 re rk N n) _ _ _ _ kk).trans hr)
      exact round_ok (show SndAll Tryz.prog Hn [] from trivial) (spots := []) (by kernel_rfl) trivial ih (hd := clean ((Hn 50).lp 4).1 s) (by rw [i50_4]) hk
    · cases ha
def G50_0 {β : Type} (A : Pr) (B : Pk) (l50_4_0 : (List R → List R → Bool → Option β) → (List R → List R → Option β) → List R → List R → Int → Int → Option β) (x0 x1 : List R) (k0 : Bool → Option β) : Option β :=
    match (A.cm .neq (A.on (A.len x0)) (A.on (A.len x1))) with
    | true => (k0 false)
    | false => (l50_4_0 (fun x2 x3 x4 =>
      k0 x4) (fun x5 x6 =>
      k0 true) x0 x1 (A.on (A.len x0)) 0)
def F50_0 {β : Type} (A : Pr) (B : Pk) (N : Nat) (x0 x1 : List R) (k0 : Bool → Option β) : Option β :=
  G50_0 A B (L50_4_0 A B N N) x0 x1 k0
def P61 : List PT := [(.r (.ro 2)), (.r (.ro 2))]
def M50_0 {β : Type} (f50_0 : List R → List R → (Bool → Option β) → Option β) (a : List T) : Option ((T → List (List T) → Option β) → Option β) :=
  match gTs P61 a [] with
  | some [.l x0, .l x1] => some fun kk => f50_0 x0 x1 (fun x2 => kk (tB x2) [])
  | _ => none
theorem e50_0 {β : Type} (A : Pr) (B : Pk) (l50_4_0 : (List R → List R → Bool → Option β) → (List R → List R → Option β) → List R → List R → Int → Int → Option β) (x0 x1 : List R) (kk : T → List (List T) → Option β) :
    uTs P61 [.l x0, .l x1] (fun a _ => bodyK (mkK Tryz.prog A B [] [(4, ML50_4 l50_4_0)] (Hn 50).pt []) Tryz.f50 a kk) = G50_0 A B l50_4_0 x0 x1 (fun x2 => kk (tB x2) []) := by kernel_rfl
theorem o50_0 {β : Type} (N : Nat) : Snd (β := β) Tryz.prog Hn 50 (M50_0 (F50_0 re rk N)) := by
  intro a h kk r ha hr
  unfold M50_0 at ha
  split at ha
  · rename_i hs
    cases ha
    have hk := via_pat hs ((e50_0 re rk (L50_4_0 re rk N N) _ _ kk).trans hr)
    exact fn_ok (f := 50) (fn := Tryz.f50) (H := Hn) (by kernel_rfl) (show SndAll Tryz.prog Hn [] from trivial) (spots := [.lp X50_4]) (by kernel_rfl) ⟨cut_lp (id := 4) i50_4 (ol50_4 N N) (fun s kk => by kernel_rfl), trivial⟩ hk
  · cases ha
noncomputable def X51_4 : Code := atF Tryz.f51 [true, true, false, true, false, false]
theorem i51_4 : firstReg X51_4 = 4 := by kernel_rfl
def GL51_4_0 {β : Type} (A : Pr) (B : Pk) (l51_4_0 : (List R → List R → Bool → Option β) → (List R → List R → Option β) → List R → List R → Int → Int → Option β) (k0 : List R → List R → Bool → Option β) (k1 : List R → List R → Option β) (x0 x1 : List R) (x2 x3 : Int) : Option β :=
    match (A.cm .lss x3 x2) with
    | true => (match (A.ix x3 (A.len x0)) with
      | some x4 => (match (B.okE [(Sh.i .i64)] false x0 x4) with
        | true => (match (A.ix x3 (A.len x1)) with
          | some x5 => (match (B.okE [(Sh.i .i64)] false x1 x5) with
            | true => (match (A.cm .neq (B.ci x0 x4 0) (B.ci x1 x5 0)) with
              | true => (k0 x0 x1 false)
              | false => (l51_4_0 k0 k1 x0 x1 x2 (A.ar .add .i64 x3 1)))
            | false => none)
          | none => none)
        | false => none)
      | none => none)
    | false => (k1 x0 x1)
def L51_4_0 {β : Type} (A : Pr) (B : Pk) (N : Nat) : Nat → (List R → List R → Bool → Option β) → (List R → List R → Option β) → List R → List R → Int → Int → Option β
  | 0, _, _, _, _, _, _ => none
  | n + 1, k0, k1, x0, x1, x2, x3 =>
    GL51_4_0 A B (L51_4_0 A B N n) k0 k1 x0 x1 x2 x3
def P62 : List PT := [(.r (.ro 1)), (.r (.ro 1)), .us 2, pB, .us 21]
def S62 (x0 x1 : List R) (x2 : Bool) : List T := [(T.r (R.ro 1 x0)), (T.r (R.ro 1 x1)), T.u, T.u, (tB x2), T.u, T.u, T.u, T.u, T.u, T.u, T.u, T.u, T.u, T.u, T.u, T.u, T.u, T.u, T.u, T.u, T.u, T.u, T.u, T.u, T.u]
def P63 : List PT := [(.r (.ro 1)), (.r (.ro 1)), .us 24]
def S63 (x0 x1 : List R) : List T := [(T.r (R.ro 1 x0)), (T.r (R.ro 1 x1)), T.u, T.u, T.u, T.u, T.u, T.u, T.u, T.u, T.u, T.u, T.u, T.u, T.u, T.u, T.u, T.u, T.u, T.u, T.u, T.u, T.u, T.u, T.u, T.u]
def P64 : List PT := [(.r (.ro 1)), (.r (.ro 1)), .us 10, pI, pI, .us 12]
noncomputable def ML51_4 {β : Type} (l51_4_0 : (List R → List R → Bool → Option β) → (List R → List R → Option β) → List R → List R → Int → Int → Option β) (s : List T) : Option ((Ex → List T → Option β) → Option β) :=
  match gTs P64 (clean ((Hn 51).lp 4).1 s) [] with
  | some [.l x0, .l x1, .i x2, .i x3] => some fun kk => l51_4_0 (fun x4 x5 x6 => kk Ex.rt (S62 x4 x5 x6)) (fun x7 x8 => kk (Ex.ex 0) (S63 x7 x8)) x0 x1 x2 x3
  | _ => none
theorem e51_4_0 {β : Type} (A : Pr) (B : Pk) (l51_4_0 : (List R → List R → Bool → Option β) → (List R → List R → Option β) → List R → List R → Int → Int → Option β) (x0 x1 : List R) (x2 x3 : Int) (kk : Ex → List T → Option β) :
    uTs P64 [.l x0, .l x1, .i x2, .i x3] (fun s _ => evK (mkK Tryz.prog A B [] [] (Hn 51).pt []) X51_4 s (fun e s' => match e with
      | .nm => (match ML51_4 l51_4_0 s' with | some h => h kk | none => none)
      | .ex m => kk (.ex m) (clean ((Hn 51).lp (firstReg X51_4)).2 s')
      | .rt => kk .rt (clean ((Hn 51).lp (firstReg X51_4)).2 s'))) = GL51_4_0 A B l51_4_0 (fun x4 x5 x6 => kk Ex.rt (S62 x4 x5 x6)) (fun x7 x8 => kk (Ex.ex 0) (S63 x7 x8)) x0 x1 x2 x3 := by kernel_rfl
theorem ol51_4 {β : Type} (N : Nat) : ∀ n, SndL (β := β) Tryz.prog Hn (Hn 51) X51_4 (ML51_4 (L51_4_0 re rk N n))
  | 0 => by
    intro s h kk r ha hr
    unfold ML51_4 at ha
    split at ha
    · cases ha; cases hr
    · cases ha
  | n + 1 => by
    have ih := ol51_4 (β := β) N n
    intro s h kk r ha hr
    unfold ML51_4 at ha
    split at ha
    · rename_i hs
      cases ha
      have hk := via_pat hs ((e51_4_0 re rk (L51_4_0 re rk N n) _ _ _ _ kk).trans hr)
      exact round_ok (show SndAll Tryz.prog Hn [] from trivial) (spots := []) (by kernel_rfl) trivial ih (hd := clean ((Hn 51).lp 4).1 s) (by rw [i51_4]) hk
    · cases ha
def G51_0 {β : Type} (A : Pr) (B : Pk) (l51_4_0 : (List R → List R → Bool → Option β) → (List R → List R → Option β) → List R → List R → Int → Int → Option β) (x0 x1 : List R) (k0 : Bool → Option β) : Option β :=
    match (A.cm .neq (A.on (A.len x0)) (A.on (A.len x1))) with
    | true => (k0 false)
    | false => (l51_4_0 (fun x2 x3 x4 =>
      k0 x4) (fun x5 x6 =>
      k0 true) x0 x1 (A.on (A.len x0)) 0)
def F51_0 {β : Type} (A : Pr) (B : Pk) (N : Nat) (x0 x1 : List R) (k0 : Bool → Option β) : Option β :=
  G51_0 A B (L51_4_0 A B N N) x0 x1 k0
def P65 : List PT := [(.r (.ro 1)), (.r (.ro 1))]
def M51_0 {β : Type} (f51_0 : List R → List R → (Bool → Option β) → Option β) (a : List T) : Option ((T → List (List T) → Option β) → Option β) :=
  match gTs P65 a [] with
  | some [.l x0, .l x1] => some fun kk => f51_0 x0 x1 (fun x2 => kk (tB x2) [])
  | _ => none
theorem e51_0 {β : Type} (A : Pr) (B : Pk) (l51_4_0 : (List R → List R → Bool → Option β) → (List R → List R → Option β) → List R → List R → Int → Int → Option β) (x0 x1 : List R) (kk : T → List (List T) → Option β) :
    uTs P65 [.l x0, .l x1] (fun a _ => bodyK (mkK Tryz.prog A B [] [(4, ML51_4 l51_4_0)] (Hn 51).pt []) Tryz.f51 a kk) = G51_0 A B l51_4_0 x0 x1 (fun x2 => kk (tB x2) []) := by kernel_rfl
theorem o51_0 {β : Type} (N : Nat) : Snd (β := β) Tryz.prog Hn 51 (M51_0 (F51_0 re rk N)) := by
  intro a h kk r ha hr
  unfold M51_0 at ha
  split at ha
  · rename_i hs
    cases ha
    have hk := via_pat hs ((e51_0 re rk (L51_4_0 re rk N N) _ _ kk).trans hr)
    exact fn_ok (f := 51) (fn := Tryz.f51) (H := Hn) (by kernel_rfl) (show SndAll Tryz.prog Hn [] from trivial) (spots := [.lp X51_4]) (by kernel_rfl) ⟨cut_lp (id := 4) i51_4 (ol51_4 N N) (fun s kk => by kernel_rfl), trivial⟩ hk
  · cases ha
def P66 : List PT := [(.r (.a [(.i .i64), (.i .i64), (.i .i64), (.i .i64), (.i .i64), (.i .i64), (.ro 4)])), (.r (.a [(.i .i64), (.i .i64), (.i .i64), (.i .i64), (.i .i64), (.i .i64), (.ro 4)])), (.r (.a [(.i .i64), (.i .i64), (.i .i64), (.i .i64), (.i .i64), (.ro 2), (.i .i64), (.i .i64), .b, .b, .b, .b, .b, .b, .b, .b, (.ro 1), (.i .i64), (.i .i64)])), (.r (.a [(.i .i64), (.i .i64), (.i .i64), (.i .i64), (.i .i64), (.ro 2), (.i .i64), (.i .i64), .b, .b, .b, .b, .b, .b, .b, .b, (.ro 1), (.i .i64), (.i .i64)])), .us 2, (.bx [pI, pI, pI, pI, pI, (.r (.ro 2)), pI, pI, pB, pB, pB, pB, pB, pB, pB, pB, (.r (.ro 1)), pI, pI]), (.bx [pI, pI, pI, pI, pI, (.r (.ro 2)), pI, pI, pB, pB, pB, pB, pB, pB, pB, pB, (.r (.ro 1)), pI, pI]), pB, pB, .us 131]
def P67 : List PT := [(.r (.a [(.i .i64), (.i .i64), (.i .i64), (.i .i64), (.i .i64), (.i .i64), (.ro 4)])), (.r (.a [(.i .i64), (.i .i64), (.i .i64), (.i .i64), (.i .i64), (.i .i64), (.ro 4)])), (.r (.a [(.i .i64), (.i .i64), (.i .i64), (.i .i64), (.i .i64), (.ro 2), (.i .i64), (.i .i64), .b, .b, .b, .b, .b, .b, .b, .b, (.ro 1), (.i .i64), (.i .i64)])), (.r (.a [(.i .i64), (.i .i64), (.i .i64), (.i .i64), (.i .i64), (.ro 2), (.i .i64), (.i .i64), .b, .b, .b, .b, .b, .b, .b, .b, (.ro 1), (.i .i64), (.i .i64)])), .us 4, pB, pB, .us 131]
def S67 (x0 x1 x2 x3 x4 x5 : Int) (x6 : List R) (x7 x8 x9 xa xb xc : Int) (xd : List R) (xe xf xg xh xi : Int) (xj : List R) (xk xl : Int) (xm xn xo xp xq xr xs xt : Bool) (xu : List R) (xv xw xx xy xz x10 x11 : Int) (x12 : List R) (x13 x14 : Int) (x15 x16 x17 x18 x19 x1a x1b x1c : Bool) (x1d : List R) (x1e x1f : Int) (x1g x1h : Bool) : List T := ((T.r (R.a [(R.i .i64 x0), (R.i .i64 x1), (R.i .i64 x2), (R.i .i64 x3), (R.i .i64 x4), (R.i .i64 x5), (R.ro 4 x6)])) :: (T.r (R.a [(R.i .i64 x7), (R.i .i64 x8), (R.i .i64 x9), (R.i .i64 xa), (R.i .i64 xb), (R.i .i64 xc), (R.ro 4 xd)])) :: (T.r (R.a [(R.i .i64 xe), (R.i .i64 xf), (R.i .i64 xg), (R.i .i64 xh), (R.i .i64 xi), (R.ro 2 xj), (R.i .i64 xk), (R.i .i64 xl), (R.b xm), (R.b xn), (R.b xo), (R.b xp), (R.b xq), (R.b xr), (R.b xs), (R.b xt), (R.ro 1 xu), (R.i .i64 xv), (R.i .i64 xw)])) :: (T.r (R.a [(R.i .i64 xx), (R.i .i64 xy), (R.i .i64 xz), (R.i .i64 x10), (R.i .i64 x11), (R.ro 2 x12), (R.i .i64 x13), (R.i .i64 x14), (R.b x15), (R.b x16), (R.b x17), (R.b x18), (R.b x19), (R.b x1a), (R.b x1b), (R.b x1c), (R.ro 1 x1d), (R.i .i64 x1e), (R.i .i64 x1f)])) :: T.u :: T.u :: T.u :: T.u :: (tB x1g) :: (tB x1h) :: T.u :: T.u :: T.u :: T.u :: T.u :: T.u :: T.u :: T.u :: T.u :: T.u :: T.u :: T.u :: T.u :: T.u :: T.u :: T.u :: T.u :: T.u :: T.u :: T.u :: T.u :: T.u :: T.u :: T.u :: T.u :: T.u :: T.u :: T.u :: T.u :: T.u :: T.u :: T.u :: T.u :: T.u :: T.u :: T.u :: T.u :: T.u :: T.u :: T.u :: T.u :: T.u :: T.u :: T.u :: T.u :: T.u :: T.u :: T.u :: T.u :: T.u :: T.u :: T.u :: T.u :: T.u :: T.u :: T.u :: T.u :: T.u :: T.u :: T.u :: T.u :: T.u :: T.u :: T.u :: T.u :: T.u :: T.u :: T.u :: T.u :: T.u :: T.u :: T.u :: T.u :: T.u :: T.u :: T.u :: T.u :: T.u :: T.u :: T.u :: T.u :: T.u :: T.u :: T.u :: T.u :: T.u :: T.u :: T.u :: T.u :: T.u :: T.u :: T.u :: T.u :: T.u :: T.u :: T.u :: T.u :: T.u :: T.u :: T.u :: T.u :: T.u :: T.u :: T.u :: T.u :: T.u :: T.u :: T.u :: T.u :: T.u :: T.u :: T.u :: T.u :: T.u :: T.u :: T.u :: T.u :: T.u :: T.u :: T.u :: T.u :: T.u :: T.u :: T.u :: T.u :: T.u :: T.u :: T.u :: T.u :: T.u :: T.u :: [])
def P68 : List PT := [(.r (.a [(.i .i64), (.i .i64), (.i .i64), (.i .i64), (.i .i64), (.i .i64), (.ro 4)])), (.r (.a [(.i .i64), (.i .i64), (.i .i64), (.i .i64), (.i .i64), (.i .i64), (.ro 4)])), (.r (.a [(.i .i64), (.i .i64), (.i .i64), (.i .i64), (.i .i64), (.ro 2), (.i .i64), (.i .i64), .b, .b, .b, .b, .b, .b, .b, .b, (.ro 1), (.i .i64), (.i .i64)])), (.r (.a [(.i .i64), (.i .i64), (.i .i64), (.i .i64), (.i .i64), (.ro 2), (.i .i64), (.i .i64), .b, .b, .b, .b, .b, .b, .b, .b, (.ro 1), (.i .i64), (.i .i64)])), .us 2, (.bx [pI, pI, pI, pI, pI, (.r (.ro 2)), pI, pI, pB, pB, pB, pB, pB, pB, pB, pB, (.r (.ro 1)), pI, pI]), (.bx [pI, pI, pI, pI, pI, (.r (.ro 2)), pI, pI, pB, pB, pB, pB, pB, pB, pB, pB, (.r (.ro 1)), pI, pI]), pB, .us 132]
noncomputable def Y24_2 : Code := atF Tryz.f24 [true, true]
theorem j24_2 : firstReg Y24_2 = 2 := by kernel_rfl
def GJ24_2_0 {β : Type} (A : Pr) (B : Pk) (f50_0 : List R → List R → (Bool → Option β) → Option β) (f51_0 : List R → List R → (Bool → Option β) → Option β) (x0 x1 x2 x3 x4 : Int) (x5 : List R) (x6 x7 : Int) (x8 x9 xa xb xc xd xe xf : Bool) (xg : List R) (xh xi xj xk xl xm xn : Int) (xo : List R) (xp xq : Int) (xr xs xt xu xv xw xx xy : Bool) (xz : List R) (x10 x11 : Int) (x12 : Bool) (k0 : Bool → Bool → Option β) : Option β :=
    match (A.cm .eql x0 xj) with
    | true => (match (A.cm .eql x1 xk) with
      | true => (match (A.cm .eql x2 xl) with
        | true => (match (A.cm .eql x3 xm) with
          | true => (match (A.cm .eql x4 xn) with
            | true => (match (A.cm .eql x6 xp) with
              | true => (match (A.cm .eql x7 xq) with
                | true => (match (A.ba (A.be x8 xr) (A.ba (A.be x9 xs) (A.ba (A.be xa xt) (A.ba (A.be xb xu) (A.ba (A.be xc xv) true))))) with
                  | true => (match (A.be xd xw) with
                    | true => (match (A.be xe xx) with
                      | true => (match (A.be xf xy) with
                        | true => (match (A.cm .eql xh x10) with
                          | true => (match (A.cm .eql xi x11) with
                            | true => (f50_0 x5 xo (fun x13 =>
                              match x13 with
                                | true => (f51_0 xg xz (fun x14 =>
                                  k0 x12 x14))
                                | false => (k0 x12 false)))
                            | false => (k0 x12 false))
                          | false => (k0 x12 false))
                        | false => (k0 x12 false))
                      | false => (k0 x12 false))
                    | false => (k0 x12 false))
                  | false => (k0 x12 false))
                | false => (k0 x12 false))
              | false => (k0 x12 false))
            | false => (k0 x12 false))
          | false => (k0 x12 false))
        | false => (k0 x12 false))
      | false => (k0 x12 false))
    | false => (k0 x12 false)
def J24_2_0 {β : Type} (A : Pr) (B : Pk) (N : Nat) (x0 x1 x2 x3 x4 : Int) (x5 : List R) (x6 x7 : Int) (x8 x9 xa xb xc xd xe xf : Bool) (xg : List R) (xh xi xj xk xl xm xn : Int) (xo : List R) (xp xq : Int) (xr xs xt xu xv xw xx xy : Bool) (xz : List R) (x10 x11 : Int) (x12 : Bool) (k0 : Bool → Bool → Option β) : Option β :=
  GJ24_2_0 A B (F50_0 A B N) (F51_0 A B N) x0 x1 x2 x3 x4 x5 x6 x7 x8 x9 xa xb xc xd xe xf xg xh xi xj xk xl xm xn xo xp xq xr xs xt xu xv xw xx xy xz x10 x11 x12 k0
def PA12 : List PT := [.us 6, (.bx [pI, pI, pI, pI, pI, (.r (.ro 2)), pI, pI, pB, pB, pB, pB, pB, pB, pB, pB, (.r (.ro 1)), pI, pI]), (.bx [pI, pI, pI, pI, pI, (.r (.ro 2)), pI, pI, pB, pB, pB, pB, pB, pB, pB, pB, (.r (.ro 1)), pI, pI]), pB, .us 132]
def SA13 (x0 x1 : Bool) : List T := (T.u :: T.u :: T.u :: T.u :: T.u :: T.u :: T.u :: T.u :: (tB x0) :: (tB x1) :: T.u :: T.u :: T.u :: T.u :: T.u :: T.u :: T.u :: T.u :: T.u :: T.u :: T.u :: T.u :: T.u :: T.u :: T.u :: T.u :: T.u :: T.u :: T.u :: T.u :: T.u :: T.u :: T.u :: T.u :: T.u :: T.u :: T.u :: T.u :: T.u :: T.u :: T.u :: T.u :: T.u :: T.u :: T.u :: T.u :: T.u :: T.u :: T.u :: T.u :: T.u :: T.u :: T.u :: T.u :: T.u :: T.u :: T.u :: T.u :: T.u :: T.u :: T.u :: T.u :: T.u :: T.u :: T.u :: T.u :: T.u :: T.u :: T.u :: T.u :: T.u :: T.u :: T.u :: T.u :: T.u :: T.u :: T.u :: T.u :: T.u :: T.u :: T.u :: T.u :: T.u :: T.u :: T.u :: T.u :: T.u :: T.u :: T.u :: T.u :: T.u :: T.u :: T.u :: T.u :: T.u :: T.u :: T.u :: T.u :: T.u :: T.u :: T.u :: T.u :: T.u :: T.u :: T.u :: T.u :: T.u :: T.u :: T.u :: T.u :: T.u :: T.u :: T.u :: T.u :: T.u :: T.u :: T.u :: T.u :: T.u :: T.u :: T.u :: T.u :: T.u :: T.u :: T.u :: T.u :: T.u :: T.u :: T.u :: T.u :: T.u :: T.u :: T.u :: T.u :: T.u :: T.u :: T.u :: T.u :: T.u :: T.u :: T.u :: [])
def MJ24_2_0 {β : Type} (q24_2_0 : Int → Int → Int → Int → Int → List R → Int → Int → Bool → Bool → Bool → Bool → Bool → Bool → Bool → Bool → List R → Int → Int → Int → Int → Int → Int → Int → List R → Int → Int → Bool → Bool → Bool → Bool → Bool → Bool → Bool → Bool → List R → Int → Int → Bool → (Bool → Bool → Option β) → Option β) (s : List T) : Option ((Ex → List T → Option β) → Option β) :=
  match gTs PA12 s [] with
  | some (.i x0 :: .i x1 :: .i x2 :: .i x3 :: .i x4 :: .l x5 :: .i x6 :: .i x7 :: .b x8 :: .b x9 :: .b xa :: .b xb :: .b xc :: .b xd :: .b xe :: .b xf :: .l xg :: .i xh :: .i xi :: .i xj :: .i xk :: .i xl :: .i xm :: .i xn :: .l xo :: .i xp :: .i xq :: .b xr :: .b xs :: .b xt :: .b xu :: .b xv :: .b xw :: .b xx :: .b xy :: .l xz :: .i x10 :: .i x11 :: .b x12 :: []) => some fun kk => q24_2_0 x0 x1 x2 x3 x4 x5 x6 x7 x8 x9 xa xb xc xd xe xf xg xh xi xj xk xl xm xn xo xp xq xr xs xt xu xv xw xx xy xz x10 x11 x12 (fun x13 x14 => kk Ex.rt (SA13 x13 x14))
  | _ => none
theorem ej24_2_0 {β : Type} (A : Pr) (B : Pk) (f50_0 : List R → List R → (Bool → Option β) → Option β) (f51_0 : List R → List R → (Bool → Option β) → Option β) (x0 x1 x2 x3 x4 : Int) (x5 : List R) (x6 x7 : Int) (x8 x9 xa xb xc xd xe xf : Bool) (xg : List R) (xh xi xj xk xl xm xn : Int) (xo : List R) (xp xq : Int) (xr xs xt xu xv xw xx xy : Bool) (xz : List R) (x10 x11 : Int) (x12 : Bool) (kk : Ex → List T → Option β) :
    uTs PA12 (.i x0 :: .i x1 :: .i x2 :: .i x3 :: .i x4 :: .l x5 :: .i x6 :: .i x7 :: .b x8 :: .b x9 :: .b xa :: .b xb :: .b xc :: .b xd :: .b xe :: .b xf :: .l xg :: .i xh :: .i xi :: .i xj :: .i xk :: .i xl :: .i xm :: .i xn :: .l xo :: .i xp :: .i xq :: .b xr :: .b xs :: .b xt :: .b xu :: .b xv :: .b xw :: .b xx :: .b xy :: .l xz :: .i x10 :: .i x11 :: .b x12 :: []) (fun s _ => evK (mkK Tryz.prog A B [(50, M50_0 f50_0), (51, M51_0 f51_0)] [] (Hn 24).pt []) Y24_2 s (fun e s' => kk e (ptEnd (Hn 24).pt (firstReg Y24_2) s'))) = GJ24_2_0 A B f50_0 f51_0 x0 x1 x2 x3 x4 x5 x6 x7 x8 x9 xa xb xc xd xe xf xg xh xi xj xk xl xm xn xo xp xq xr xs xt xu xv xw xx xy xz x10 x11 x12 (fun x13 x14 => kk Ex.rt (SA13 x13 x14)) := by kernel_rfl
theorem oj24_2_0 {β : Type} (N : Nat) : SndJ (β := β) Tryz.prog Hn (Hn 24) Y24_2 (MJ24_2_0 (J24_2_0 re rk N)) := by
  intro s h kk r ha hr
  unfold MJ24_2_0 at ha
  split at ha
  · rename_i hs
    cases ha
    have hk := via_pat hs ((ej24_2_0 re rk (F50_0 re rk N) (F51_0 re rk N) _ _ _ _ _ _ _ _ _ _ _ _ _ _ _ _ _ _ _ _ _ _ _ _ _ _ _ _ _ _ _ _ _ _ _ _ _ _ _ kk).trans hr)
    exact join_ok (show SndAll Tryz.prog Hn [(50, M50_0 (F50_0 re rk N)), (51, M51_0 (F51_0 re rk N))] from ⟨o50_0 N, o51_0 N, trivial⟩) (spots := []) (by kernel_rfl) trivial hk
  · cases ha
def G24_0 {β : Type} (A : Pr) (B : Pk) (f49_0 : List R → List R → (Bool → Option β) → Option β) (q24_2_0 : Int → Int → Int → Int → Int → List R → Int → Int → Bool → Bool → Bool → Bool → Bool → Bool → Bool → Bool → List R → Int → Int → Int → Int → Int → Int → Int → List R → Int → Int → Bool → Bool → Bool → Bool → Bool → Bool → Bool → Bool → List R → Int → Int → Bool → (Bool → Bool → Option β) → Option β) (x0 x1 x2 x3 x4 x5 : Int) (x6 : List R) (x7 x8 x9 xa xb xc : Int) (xd : List R) (xe xf xg xh xi : Int) (xj : List R) (xk xl : Int) (xm xn xo xp xq xr xs xt : Bool) (xu : List R) (xv xw xx xy xz x10 x11 : Int) (x12 : List R) (x13 x14 : Int) (x15 x16 x17 x18 x19 x1a x1b x1c : Bool) (x1d : List R) (x1e x1f : Int) (k0 : Bool → Bool → Option β) : Option β :=
    match (A.ba (A.cm .eql x0 x7) (A.ba (A.cm .eql x1 x8) (A.ba (A.cm .eql x2 x9) (A.ba (A.cm .eql x3 xa) true)))) with
    | true => (match (A.cm .eql x4 xb) with
      | true => (match (A.cm .eql x5 xc) with
        | true => (f49_0 x6 xd (fun x1g =>
          q24_2_0 xe xf xg xh xi xj xk xl xm xn xo xp xq xr xs xt xu xv xw xx xy xz x10 x11 x12 x13 x14 x15 x16 x17 x18 x19 x1a x1b x1c x1d x1e x1f x1g (fun x1h x1i =>
            k0 x1h x1i)))
        | false => (q24_2_0 xe xf xg xh xi xj xk xl xm xn xo xp xq xr xs xt xu xv xw xx xy xz x10 x11 x12 x13 x14 x15 x16 x17 x18 x19 x1a x1b x1c x1d x1e x1f false (fun x1j x1k =>
          k0 x1j x1k)))
      | false => (q24_2_0 xe xf xg xh xi xj xk xl xm xn xo xp xq xr xs xt xu xv xw xx xy xz x10 x11 x12 x13 x14 x15 x16 x17 x18 x19 x1a x1b x1c x1d x1e x1f false (fun x1l x1m =>
        k0 x1l x1m)))
    | false => (q24_2_0 xe xf xg xh xi xj xk xl xm xn xo xp xq xr xs xt xu xv xw xx xy xz x10 x11 x12 x13 x14 x15 x16 x17 x18 x19 x1a x1b x1c x1d x1e x1f false (fun x1n x1o =>
      k0 x1n x1o))
end
