/-
  The functions' trees, printed by a program of ours.
-/
import Derived.Test.YtcapaihnachkhaaK12b
set_option linter.unusedVariables false
set_option maxRecDepth 100000
namespace Go.Proofs.Ytcapaihnachkhaa
open Go.Os
section
theorem e37_0 {β : Type} (A : Pr) (B : Pk) (f25_0 : Int → Int → Int → Int → Int → Int → List R → List R → (KI β) → Option β) (f64_0 : Int → Int → Int → Int → Int → Int → Int → Int → (K4 β) → Option β) (f65_0 : Int → Int → Int → Int → (KB β) → Option β) (f66_0 : Int → Int → Int → Int → (KB β) → Option β) (l37_11_0 : (Q34 β) → (Q35 β) → (Q36 β) → (Q37 β) → Q38 β) (l37_11_1 : (Q34 β) → (Q35 β) → (Q36 β) → (Q37 β) → Q39 β) (x0 x1 x2 x3 x4 x5 : Int) (x6 x7 : List R) (x8 x9 xa xb : Int) (kk : T → List (List T) → Option β) :
    uTs P76 [.i x0, .i x1, .i x2, .i x3, .i x4, .i x5, .l x6, .l x7, .i x8, .i x9, .i xa, .i xb] (fun a _ => bodyK (mkK Try.prog A B [(25, M25_0 f25_0), (64, M64_0 f64_0), (65, M65_0 f65_0), (66, M66_0 f66_0)] [(11, M37_11 l37_11_0 l37_11_1)] (Hn 37).pt []) Try.f37 a kk) = G37_0 A B f25_0 f64_0 f65_0 f66_0 l37_11_0 l37_11_1 x0 x1 x2 x3 x4 x5 x6 x7 x8 x9 xa xb (fun xc xd xe xf xg xh xi => kk (T.tp true [(T.tp false [(tI xc), (tI xd), (tI xe), (tI xf), (tI xg), (tI xh), (T.r R.sn), (T.r R.sn)]), (tI xi)]) []) (fun xj xk xl xm xn xo xp xq => kk (T.tp true [(T.tp false [(tI xj), (tI xk), (tI xl), (tI xm), (tI xn), (tI xo), (T.own true 4 xp), (T.r R.sn)]), (tI xq)]) []) (fun xr xs xt xu xv xw xx xy xz => kk (T.tp true [(T.tp false [(tI xr), (tI xs), (tI xt), (tI xu), (tI xv), (tI xw), (T.own true 4 xx), (T.own false 5 xy)]), (tI xz)]) []) := by kernel_rfl
theorem o37_0 {β : Type} (N : Nat) : Snd (β := β) Try.prog Hn 37 (M37_0 (F37_0 re rk N)) := by
  intro a h kk r ha hr
  unfold M37_0 at ha
  split at ha
  · rename_i hs
    cases ha
    have hk := via_pat hs ((e37_0 re rk (F25_0 re rk N) (F64_0 re rk N) (F65_0 re rk N) (F66_0 re rk N) (L37_11_0 re rk N N) (L37_11_1 re rk N N) _ _ _ _ _ _ _ _ _ _ _ _ kk).trans hr)
    exact fn_ok (f := 37) (fn := Try.f37) (H := Hn) (by kernel_rfl) (show SndAll Try.prog Hn [(25, M25_0 (F25_0 re rk N)), (64, M64_0 (F64_0 re rk N)), (65, M65_0 (F65_0 re rk N)), (66, M66_0 (F66_0 re rk N))] from ⟨o25_0 N, o64_0 N, o65_0 N, o66_0 N, trivial⟩) (spots := [.lp X37_11]) (by kernel_rfl) ⟨cut_lp (id := 11) i37_11 (ol37_11 N N) (fun s kk => by kernel_rfl), trivial⟩ hk
  · cases ha
noncomputable def X67_4 : Code := atF Try.f67 [true, true, false, true, false, false]
theorem i67_4 : firstReg X67_4 = 4 := by kernel_rfl
def GL67_4_0 {β : Type} (A : Pr) (B : Pk) (l67_4_0 : (Option β) → Q40 β) (k0 : Option β) (x0 x1 x2 x3 x4 x5 x6 x7 x8 x9 xa xb xc : Int) : Option β :=
    match (A.cm .lss xc (A.on 0)) with
    | true => none
    | false => k0
def L67_4_0 {β : Type} (A : Pr) (B : Pk) (N : Nat) : Nat → (Option β) → Q40 β
  | 0, _, _, _, _, _, _, _, _, _, _, _, _, _, _ => none
  | n + 1, k0, x0, x1, x2, x3, x4, x5, x6, x7, x8, x9, xa, xb, xc =>
    GL67_4_0 A B (L67_4_0 A B N n) k0 x0 x1 x2 x3 x4 x5 x6 x7 x8 x9 xa xb xc
def P97 : List PT := [.us 52]
def S97  : List T := (T.u :: T.u :: T.u :: T.u :: T.u :: T.u :: T.u :: T.u :: T.u :: T.u :: T.u :: T.u :: T.u :: T.u :: T.u :: T.u :: T.u :: T.u :: T.u :: T.u :: T.u :: T.u :: T.u :: T.u :: T.u :: T.u :: T.u :: T.u :: T.u :: T.u :: T.u :: T.u :: T.u :: T.u :: T.u :: T.u :: T.u :: T.u :: T.u :: T.u :: T.u :: T.u :: T.u :: T.u :: T.u :: T.u :: T.u :: T.u :: T.u :: T.u :: T.u :: T.u :: [])
def P98 : List PT := [.us 2, (.bx [pI, pI, pI, pI, pI, pI, (.r .sn)]), (.bx [pI, pI, pI, pI, pI, pI, (.r .sn)]), .us 1, pI, .us 46]
noncomputable def M67_4 {β : Type} (l67_4_0 : (Option β) → Q40 β) (s : List T) : Option ((Ex → List T → Option β) → Option β) :=
  match gTs P98 (clean ((Hn 67).lp 4).1 s) [] with
  | some [.i x0, .i x1, .i x2, .i x3, .i x4, .i x5, .i x6, .i x7, .i x8, .i x9, .i xa, .i xb, .i xc] => some fun kk => l67_4_0 (kk (Ex.ex 0) (S97)) x0 x1 x2 x3 x4 x5 x6 x7 x8 x9 xa xb xc
  | _ => none
theorem e67_4_0 {β : Type} (A : Pr) (B : Pk) (l67_4_0 : (Option β) → Q40 β) (x0 x1 x2 x3 x4 x5 x6 x7 x8 x9 xa xb xc : Int) (kk : Ex → List T → Option β) :
    uTs P98 [.i x0, .i x1, .i x2, .i x3, .i x4, .i x5, .i x6, .i x7, .i x8, .i x9, .i xa, .i xb, .i xc] (fun s _ => evK (mkK Try.prog A B [] [] (Hn 67).pt []) X67_4 s (fun e s' => match e with
      | .nm => (match M67_4 l67_4_0 s' with | some h => h kk | none => none)
      | .ex m => kk (.ex m) (clean ((Hn 67).lp (firstReg X67_4)).2 s')
      | .rt => kk .rt (clean ((Hn 67).lp (firstReg X67_4)).2 s'))) = GL67_4_0 A B l67_4_0 (kk (Ex.ex 0) (S97)) x0 x1 x2 x3 x4 x5 x6 x7 x8 x9 xa xb xc := by kernel_rfl
theorem ol67_4 {β : Type} (N : Nat) : ∀ n, SndL (β := β) Try.prog Hn (Hn 67) X67_4 (M67_4 (L67_4_0 re rk N n))
  | 0 => by
    intro s h kk r ha hr
    unfold M67_4 at ha
    split at ha
    · cases ha; cases hr
    · cases ha
  | n + 1 => by
    have ih := ol67_4 (β := β) N n
    intro s h kk r ha hr
    unfold M67_4 at ha
    split at ha
    · rename_i hs
      cases ha
      have hk := via_pat hs ((e67_4_0 re rk (L67_4_0 re rk N n) _ _ _ _ _ _ _ _ _ _ _ _ _ kk).trans hr)
      exact round_ok (show SndAll Try.prog Hn [] from trivial) (spots := []) (by kernel_rfl) trivial ih (hd := clean ((Hn 67).lp 4).1 s) (by rw [i67_4]) hk
    · cases ha
def G67_0 {β : Type} (A : Pr) (B : Pk) (l67_4_0 : (Option β) → Q40 β) (x0 x1 x2 x3 x4 x5 x6 x7 x8 x9 xa xb : Int) (k0 : KB β) : Option β :=
    match (A.bn (A.ba (A.cm .eql x0 x6) (A.ba (A.cm .eql x1 x7) (A.ba (A.cm .eql x2 x8) (A.ba (A.cm .eql x3 x9) true))))) with
    | true => (k0 false)
    | false => (match (A.cm .neq x4 xa) with
      | true => (k0 false)
      | false => (match (A.cm .neq x5 xb) with
        | true => (k0 false)
        | false => (match (A.cm .neq (A.on 0) (A.on 0)) with
          | true => (k0 false)
          | false => (l67_4_0 (k0 true) x0 x1 x2 x3 x4 x5 x6 x7 x8 x9 xa xb 0))))
def F67_0 {β : Type} (A : Pr) (B : Pk) (N : Nat) (x0 x1 x2 x3 x4 x5 x6 x7 x8 x9 xa xb : Int) (k0 : KB β) : Option β :=
  G67_0 A B (L67_4_0 A B N N) x0 x1 x2 x3 x4 x5 x6 x7 x8 x9 xa xb k0
def P99 : List PT := [(.r (.a [(.i .i64), (.i .i64), (.i .i64), (.i .i64), (.i .i64), (.i .i64), .sn])), (.r (.a [(.i .i64), (.i .i64), (.i .i64), (.i .i64), (.i .i64), (.i .i64), .sn]))]
def M67_0 {β : Type} (f67_0 : Int → Int → Int → Int → Int → Int → Int → Int → Int → Int → Int → Int → (KB β) → Option β) (a : List T) : Option ((T → List (List T) → Option β) → Option β) :=
  match gTs P99 a [] with
  | some [.i x0, .i x1, .i x2, .i x3, .i x4, .i x5, .i x6, .i x7, .i x8, .i x9, .i xa, .i xb] => some fun kk => f67_0 x0 x1 x2 x3 x4 x5 x6 x7 x8 x9 xa xb (fun xc => kk (tB xc) [])
  | _ => none
theorem e67_0 {β : Type} (A : Pr) (B : Pk) (l67_4_0 : (Option β) → Q40 β) (x0 x1 x2 x3 x4 x5 x6 x7 x8 x9 xa xb : Int) (kk : T → List (List T) → Option β) :
    uTs P99 [.i x0, .i x1, .i x2, .i x3, .i x4, .i x5, .i x6, .i x7, .i x8, .i x9, .i xa, .i xb] (fun a _ => bodyK (mkK Try.prog A B [] [(4, M67_4 l67_4_0)] (Hn 67).pt []) Try.f67 a kk) = G67_0 A B l67_4_0 x0 x1 x2 x3 x4 x5 x6 x7 x8 x9 xa xb (fun xc => kk (tB xc) []) := by kernel_rfl
theorem o67_0 {β : Type} (N : Nat) : Snd (β := β) Try.prog Hn 67 (M67_0 (F67_0 re rk N)) := by
  intro a h kk r ha hr
  unfold M67_0 at ha
  split at ha
  · rename_i hs
    cases ha
    have hk := via_pat hs ((e67_0 re rk (L67_4_0 re rk N N) _ _ _ _ _ _ _ _ _ _ _ _ kk).trans hr)
    exact fn_ok (f := 67) (fn := Try.f67) (H := Hn) (by kernel_rfl) (show SndAll Try.prog Hn [] from trivial) (spots := [.lp X67_4]) (by kernel_rfl) ⟨cut_lp (id := 4) i67_4 (ol67_4 N N) (fun s kk => by kernel_rfl), trivial⟩ hk
  · cases ha
noncomputable def X68_4 : Code := atF Try.f68 [true, true, false, true, false, false]
theorem i68_4 : firstReg X68_4 = 4 := by kernel_rfl
def GL68_4_0 {β : Type} (A : Pr) (B : Pk) (l68_4_0 : (Q41 β) → Q42 β) (k0 : Q41 β) (x0 x1 x2 x3 x4 x5 x6 : Int) (x7 x8 x9 xa xb xc xd xe : Bool) (xf xg xh xi xj xk xl xm xn : Int) (xo xp xq xr xs xt xu xv : Bool) (xw xx xy : Int) : Option β :=
    match (A.cm .lss xy (A.on 0)) with
    | true => none
    | false => (k0 x0 x1 x2 x3 x4 x5 x6 x7 x8 x9 xa xb xc xd xe xf xg xh xi xj xk xl xm xn xo xp xq xr xs xt xu xv xw xx)
def L68_4_0 {β : Type} (A : Pr) (B : Pk) (N : Nat) : Nat → (Q41 β) → Q42 β
  | 0, _, _, _, _, _, _, _, _, _, _, _, _, _, _, _, _, _, _, _, _, _, _, _, _, _, _, _, _, _, _, _, _, _, _, _, _ => none
  | n + 1, k0, x0, x1, x2, x3, x4, x5, x6, x7, x8, x9, xa, xb, xc, xd, xe, xf, xg, xh, xi, xj, xk, xl, xm, xn, xo, xp, xq, xr, xs, xt, xu, xv, xw, xx, xy =>
    GL68_4_0 A B (L68_4_0 A B N n) k0 x0 x1 x2 x3 x4 x5 x6 x7 x8 x9 xa xb xc xd xe xf xg xh xi xj xk xl xm xn xo xp xq xr xs xt xu xv xw xx xy
def P100 : List PT := [.us 2, (.bx [pI, pI, pI, pI, pI, (.r .sn), pI, pI, pB, pB, pB, pB, pB, pB, pB, pB, (.r .sn), pI, pI]), (.bx [pI, pI, pI, pI, pI, (.r .sn), pI, pI, pB, pB, pB, pB, pB, pB, pB, pB, (.r .sn), pI, pI]), .us 146]
def S100 (x0 x1 x2 x3 x4 x5 x6 : Int) (x7 x8 x9 xa xb xc xd xe : Bool) (xf xg xh xi xj xk xl xm xn : Int) (xo xp xq xr xs xt xu xv : Bool) (xw xx : Int) : List T := (T.u :: T.u :: (T.bx [(tI x0), (tI x1), (tI x2), (tI x3), (tI x4), (T.r R.sn), (tI x5), (tI x6), (tB x7), (tB x8), (tB x9), (tB xa), (tB xb), (tB xc), (tB xd), (tB xe), (T.r R.sn), (tI xf), (tI xg)]) :: (T.bx [(tI xh), (tI xi), (tI xj), (tI xk), (tI xl), (T.r R.sn), (tI xm), (tI xn), (tB xo), (tB xp), (tB xq), (tB xr), (tB xs), (tB xt), (tB xu), (tB xv), (T.r R.sn), (tI xw), (tI xx)]) :: T.u :: T.u :: T.u :: T.u :: T.u :: T.u :: T.u :: T.u :: T.u :: T.u :: T.u :: T.u :: T.u :: T.u :: T.u :: T.u :: T.u :: T.u :: T.u :: T.u :: T.u :: T.u :: T.u :: T.u :: T.u :: T.u :: T.u :: T.u :: T.u :: T.u :: T.u :: T.u :: T.u :: T.u :: T.u :: T.u :: T.u :: T.u :: T.u :: T.u :: T.u :: T.u :: T.u :: T.u :: T.u :: T.u :: T.u :: T.u :: T.u :: T.u :: T.u :: T.u :: T.u :: T.u :: T.u :: T.u :: T.u :: T.u :: T.u :: T.u :: T.u :: T.u :: T.u :: T.u :: T.u :: T.u :: T.u :: T.u :: T.u :: T.u :: T.u :: T.u :: T.u :: T.u :: T.u :: T.u :: T.u :: T.u :: T.u :: T.u :: T.u :: T.u :: T.u :: T.u :: T.u :: T.u :: T.u :: T.u :: T.u :: T.u :: T.u :: T.u :: T.u :: T.u :: T.u :: T.u :: T.u :: T.u :: T.u :: T.u :: T.u :: T.u :: T.u :: T.u :: T.u :: T.u :: T.u :: T.u :: T.u :: T.u :: T.u :: T.u :: T.u :: T.u :: T.u :: T.u :: T.u :: T.u :: T.u :: T.u :: T.u :: T.u :: T.u :: T.u :: T.u :: T.u :: T.u :: T.u :: T.u :: T.u :: T.u :: T.u :: T.u :: T.u :: T.u :: T.u :: T.u :: T.u :: T.u :: T.u :: T.u :: T.u :: T.u :: T.u :: T.u :: T.u :: [])
def P101 : List PT := [.us 2, (.bx [pI, pI, pI, pI, pI, (.r .sn), pI, pI, pB, pB, pB, pB, pB, pB, pB, pB, (.r .sn), pI, pI]), (.bx [pI, pI, pI, pI, pI, (.r .sn), pI, pI, pB, pB, pB, pB, pB, pB, pB, pB, (.r .sn), pI, pI]), .us 1, pI, .us 144]
noncomputable def M68_4 {β : Type} (l68_4_0 : (Q41 β) → Q42 β) (s : List T) : Option ((Ex → List T → Option β) → Option β) :=
  match gTs P101 (clean ((Hn 68).lp 4).1 s) [] with
  | some (.i x0 :: .i x1 :: .i x2 :: .i x3 :: .i x4 :: .i x5 :: .i x6 :: .b x7 :: .b x8 :: .b x9 :: .b xa :: .b xb :: .b xc :: .b xd :: .b xe :: .i xf :: .i xg :: .i xh :: .i xi :: .i xj :: .i xk :: .i xl :: .i xm :: .i xn :: .b xo :: .b xp :: .b xq :: .b xr :: .b xs :: .b xt :: .b xu :: .b xv :: .i xw :: .i xx :: .i xy :: []) => some fun kk => l68_4_0 (fun xz x10 x11 x12 x13 x14 x15 x16 x17 x18 x19 x1a x1b x1c x1d x1e x1f x1g x1h x1i x1j x1k x1l x1m x1n x1o x1p x1q x1r x1s x1t x1u x1v x1w => kk (Ex.ex 0) (S100 xz x10 x11 x12 x13 x14 x15 x16 x17 x18 x19 x1a x1b x1c x1d x1e x1f x1g x1h x1i x1j x1k x1l x1m x1n x1o x1p x1q x1r x1s x1t x1u x1v x1w)) x0 x1 x2 x3 x4 x5 x6 x7 x8 x9 xa xb xc xd xe xf xg xh xi xj xk xl xm xn xo xp xq xr xs xt xu xv xw xx xy
  | _ => none
theorem e68_4_0 {β : Type} (A : Pr) (B : Pk) (l68_4_0 : (Q41 β) → Q42 β) (x0 x1 x2 x3 x4 x5 x6 : Int) (x7 x8 x9 xa xb xc xd xe : Bool) (xf xg xh xi xj xk xl xm xn : Int) (xo xp xq xr xs xt xu xv : Bool) (xw xx xy : Int) (kk : Ex → List T → Option β) :
    uTs P101 (.i x0 :: .i x1 :: .i x2 :: .i x3 :: .i x4 :: .i x5 :: .i x6 :: .b x7 :: .b x8 :: .b x9 :: .b xa :: .b xb :: .b xc :: .b xd :: .b xe :: .i xf :: .i xg :: .i xh :: .i xi :: .i xj :: .i xk :: .i xl :: .i xm :: .i xn :: .b xo :: .b xp :: .b xq :: .b xr :: .b xs :: .b xt :: .b xu :: .b xv :: .i xw :: .i xx :: .i xy :: []) (fun s _ => evK (mkK Try.prog A B [] [] (Hn 68).pt []) X68_4 s (fun e s' => match e with
      | .nm => (match M68_4 l68_4_0 s' with | some h => h kk | none => none)
      | .ex m => kk (.ex m) (clean ((Hn 68).lp (firstReg X68_4)).2 s')
      | .rt => kk .rt (clean ((Hn 68).lp (firstReg X68_4)).2 s'))) = GL68_4_0 A B l68_4_0 (fun xz x10 x11 x12 x13 x14 x15 x16 x17 x18 x19 x1a x1b x1c x1d x1e x1f x1g x1h x1i x1j x1k x1l x1m x1n x1o x1p x1q x1r x1s x1t x1u x1v x1w => kk (Ex.ex 0) (S100 xz x10 x11 x12 x13 x14 x15 x16 x17 x18 x19 x1a x1b x1c x1d x1e x1f x1g x1h x1i x1j x1k x1l x1m x1n x1o x1p x1q x1r x1s x1t x1u x1v x1w)) x0 x1 x2 x3 x4 x5 x6 x7 x8 x9 xa xb xc xd xe xf xg xh xi xj xk xl xm xn xo xp xq xr xs xt xu xv xw xx xy := by kernel_rfl
theorem ol68_4 {β : Type} (N : Nat) : ∀ n, SndL (β := β) Try.prog Hn (Hn 68) X68_4 (M68_4 (L68_4_0 re rk N n))
  | 0 => by
    intro s h kk r ha hr
    unfold M68_4 at ha
    split at ha
    · cases ha; cases hr
    · cases ha
  | n + 1 => by
    have ih := ol68_4 (β := β) N n
    intro s h kk r ha hr
    unfold M68_4 at ha
    split at ha
    · rename_i hs
      cases ha
      have hk := via_pat hs ((e68_4_0 re rk (L68_4_0 re rk N n) _ _ _ _ _ _ _ _ _ _ _ _ _ _ _ _ _ _ _ _ _ _ _ _ _ _ _ _ _ _ _ _ _ _ _ kk).trans hr)
      exact round_ok (show SndAll Try.prog Hn [] from trivial) (spots := []) (by kernel_rfl) trivial ih (hd := clean ((Hn 68).lp 4).1 s) (by rw [i68_4]) hk
    · cases ha
noncomputable def X68_9 : Code := atF Try.f68 [true, true, true, false, true, false, false]
theorem i68_9 : firstReg X68_9 = 9 := by kernel_rfl
def GL68_9_0 {β : Type} (A : Pr) (B : Pk) (l68_9_0 : (Option β) → Q42 β) (k0 : Option β) (x0 x1 x2 x3 x4 x5 x6 : Int) (x7 x8 x9 xa xb xc xd xe : Bool) (xf xg xh xi xj xk xl xm xn : Int) (xo xp xq xr xs xt xu xv : Bool) (xw xx xy : Int) : Option β :=
    match (A.cm .lss xy (A.on 0)) with
    | true => none
    | false => k0
def L68_9_0 {β : Type} (A : Pr) (B : Pk) (N : Nat) : Nat → (Option β) → Q42 β
  | 0, _, _, _, _, _, _, _, _, _, _, _, _, _, _, _, _, _, _, _, _, _, _, _, _, _, _, _, _, _, _, _, _, _, _, _, _ => none
  | n + 1, k0, x0, x1, x2, x3, x4, x5, x6, x7, x8, x9, xa, xb, xc, xd, xe, xf, xg, xh, xi, xj, xk, xl, xm, xn, xo, xp, xq, xr, xs, xt, xu, xv, xw, xx, xy =>
    GL68_9_0 A B (L68_9_0 A B N n) k0 x0 x1 x2 x3 x4 x5 x6 x7 x8 x9 xa xb xc xd xe xf xg xh xi xj xk xl xm xn xo xp xq xr xs xt xu xv xw xx xy
def P102 : List PT := [.us 150]
def S102  : List T := (T.u :: T.u :: T.u :: T.u :: T.u :: T.u :: T.u :: T.u :: T.u :: T.u :: T.u :: T.u :: T.u :: T.u :: T.u :: T.u :: T.u :: T.u :: T.u :: T.u :: T.u :: T.u :: T.u :: T.u :: T.u :: T.u :: T.u :: T.u :: T.u :: T.u :: T.u :: T.u :: T.u :: T.u :: T.u :: T.u :: T.u :: T.u :: T.u :: T.u :: T.u :: T.u :: T.u :: T.u :: T.u :: T.u :: T.u :: T.u :: T.u :: T.u :: T.u :: T.u :: T.u :: T.u :: T.u :: T.u :: T.u :: T.u :: T.u :: T.u :: T.u :: T.u :: T.u :: T.u :: T.u :: T.u :: T.u :: T.u :: T.u :: T.u :: T.u :: T.u :: T.u :: T.u :: T.u :: T.u :: T.u :: T.u :: T.u :: T.u :: T.u :: T.u :: T.u :: T.u :: T.u :: T.u :: T.u :: T.u :: T.u :: T.u :: T.u :: T.u :: T.u :: T.u :: T.u :: T.u :: T.u :: T.u :: T.u :: T.u :: T.u :: T.u :: T.u :: T.u :: T.u :: T.u :: T.u :: T.u :: T.u :: T.u :: T.u :: T.u :: T.u :: T.u :: T.u :: T.u :: T.u :: T.u :: T.u :: T.u :: T.u :: T.u :: T.u :: T.u :: T.u :: T.u :: T.u :: T.u :: T.u :: T.u :: T.u :: T.u :: T.u :: T.u :: T.u :: T.u :: T.u :: T.u :: T.u :: T.u :: T.u :: T.u :: T.u :: T.u :: T.u :: T.u :: T.u :: T.u :: T.u :: T.u :: [])
def P103 : List PT := [.us 2, (.bx [pI, pI, pI, pI, pI, (.r .sn), pI, pI, pB, pB, pB, pB, pB, pB, pB, pB, (.r .sn), pI, pI]), (.bx [pI, pI, pI, pI, pI, (.r .sn), pI, pI, pB, pB, pB, pB, pB, pB, pB, pB, (.r .sn), pI, pI]), .us 2, pI, .us 143]
noncomputable def M68_9 {β : Type} (l68_9_0 : (Option β) → Q42 β) (s : List T) : Option ((Ex → List T → Option β) → Option β) :=
  match gTs P103 (clean ((Hn 68).lp 9).1 s) [] with
  | some (.i x0 :: .i x1 :: .i x2 :: .i x3 :: .i x4 :: .i x5 :: .i x6 :: .b x7 :: .b x8 :: .b x9 :: .b xa :: .b xb :: .b xc :: .b xd :: .b xe :: .i xf :: .i xg :: .i xh :: .i xi :: .i xj :: .i xk :: .i xl :: .i xm :: .i xn :: .b xo :: .b xp :: .b xq :: .b xr :: .b xs :: .b xt :: .b xu :: .b xv :: .i xw :: .i xx :: .i xy :: []) => some fun kk => l68_9_0 (kk (Ex.ex 2) (S102)) x0 x1 x2 x3 x4 x5 x6 x7 x8 x9 xa xb xc xd xe xf xg xh xi xj xk xl xm xn xo xp xq xr xs xt xu xv xw xx xy
  | _ => none
theorem e68_9_0 {β : Type} (A : Pr) (B : Pk) (l68_9_0 : (Option β) → Q42 β) (x0 x1 x2 x3 x4 x5 x6 : Int) (x7 x8 x9 xa xb xc xd xe : Bool) (xf xg xh xi xj xk xl xm xn : Int) (xo xp xq xr xs xt xu xv : Bool) (xw xx xy : Int) (kk : Ex → List T → Option β) :
    uTs P103 (.i x0 :: .i x1 :: .i x2 :: .i x3 :: .i x4 :: .i x5 :: .i x6 :: .b x7 :: .b x8 :: .b x9 :: .b xa :: .b xb :: .b xc :: .b xd :: .b xe :: .i xf :: .i xg :: .i xh :: .i xi :: .i xj :: .i xk :: .i xl :: .i xm :: .i xn :: .b xo :: .b xp :: .b xq :: .b xr :: .b xs :: .b xt :: .b xu :: .b xv :: .i xw :: .i xx :: .i xy :: []) (fun s _ => evK (mkK Try.prog A B [] [] (Hn 68).pt []) X68_9 s (fun e s' => match e with
      | .nm => (match M68_9 l68_9_0 s' with | some h => h kk | none => none)
      | .ex m => kk (.ex m) (clean ((Hn 68).lp (firstReg X68_9)).2 s')
      | .rt => kk .rt (clean ((Hn 68).lp (firstReg X68_9)).2 s'))) = GL68_9_0 A B l68_9_0 (kk (Ex.ex 2) (S102)) x0 x1 x2 x3 x4 x5 x6 x7 x8 x9 xa xb xc xd xe xf xg xh xi xj xk xl xm xn xo xp xq xr xs xt xu xv xw xx xy := by kernel_rfl
theorem ol68_9 {β : Type} (N : Nat) : ∀ n, SndL (β := β) Try.prog Hn (Hn 68) X68_9 (M68_9 (L68_9_0 re rk N n))
  | 0 => by
    intro s h kk r ha hr
    unfold M68_9 at ha
    split at ha
    · cases ha; cases hr
    · cases ha
  | n + 1 => by
    have ih := ol68_9 (β := β) N n
    intro s h kk r ha hr
    unfold M68_9 at ha
    split at ha
    · rename_i hs
      cases ha
      have hk := via_pat hs ((e68_9_0 re rk (L68_9_0 re rk N n) _ _ _ _ _ _ _ _ _ _ _ _ _ _ _ _ _ _ _ _ _ _ _ _ _ _ _ _ _ _ _ _ _ _ _ kk).trans hr)
      exact round_ok (show SndAll Try.prog Hn [] from trivial) (spots := []) (by kernel_rfl) trivial ih (hd := clean ((Hn 68).lp 9).1 s) (by rw [i68_9]) hk
    · cases ha
def G68_0 {β : Type} (A : Pr) (B : Pk) (l68_4_0 : (Q41 β) → Q42 β) (l68_9_0 : (Option β) → Q42 β) (x0 x1 x2 x3 x4 x5 x6 : Int) (x7 x8 x9 xa xb xc xd xe : Bool) (xf xg xh xi xj xk xl xm xn : Int) (xo xp xq xr xs xt xu xv : Bool) (xw xx : Int) (k0 : KB β) : Option β :=
    match (A.cm .neq x0 xh) with
    | true => (k0 false)
    | false => (match (A.cm .neq x1 xi) with
      | true => (k0 false)
      | false => (match (A.cm .neq x2 xj) with
        | true => (k0 false)
        | false => (match (A.cm .neq x3 xk) with
          | true => (k0 false)
          | false => (match (A.cm .neq x4 xl) with
            | true => (k0 false)
            | false => (match (A.cm .neq x5 xm) with
              | true => (k0 false)
              | false => (match (A.cm .neq x6 xn) with
                | true => (k0 false)
                | false => (match (A.bn (A.ba (A.be x7 xo) (A.ba (A.be x8 xp) (A.ba (A.be x9 xq) (A.ba (A.be xa xr) (A.ba (A.be xb xs) true)))))) with
                  | true => (k0 false)
                  | false => (match (A.bn (A.be xc xt)) with
                    | true => (k0 false)
                    | false => (match (A.bn (A.be xd xu)) with
                      | true => (k0 false)
                      | false => (match (A.bn (A.be xe xv)) with
                        | true => (k0 false)
                        | false => (match (A.cm .neq xf xw) with
                          | true => (k0 false)
                          | false => (match (A.cm .neq xg xx) with
                            | true => (k0 false)
                            | false => (match (A.cm .neq (A.on 0) (A.on 0)) with
                              | true => (k0 false)
                              | false => (match (A.cm .neq (A.on 0) (A.on 0)) with
                                | true => (k0 false)
                                | false => (l68_4_0 (fun xy xz x10 x11 x12 x13 x14 x15 x16 x17 x18 x19 x1a x1b x1c x1d x1e x1f x1g x1h x1i x1j x1k x1l x1m x1n x1o x1p x1q x1r x1s x1t x1u x1v =>
                                  l68_9_0 (k0 true) xy xz x10 x11 x12 x13 x14 x15 x16 x17 x18 x19 x1a x1b x1c x1d x1e x1f x1g x1h x1i x1j x1k x1l x1m x1n x1o x1p x1q x1r x1s x1t x1u x1v 0) x0 x1 x2 x3 x4 x5 x6 x7 x8 x9 xa xb xc xd xe xf xg xh xi xj xk xl xm xn xo xp xq xr xs xt xu xv xw xx 0)))))))))))))))
def F68_0 {β : Type} (A : Pr) (B : Pk) (N : Nat) (x0 x1 x2 x3 x4 x5 x6 : Int) (x7 x8 x9 xa xb xc xd xe : Bool) (xf xg xh xi xj xk xl xm xn : Int) (xo xp xq xr xs xt xu xv : Bool) (xw xx : Int) (k0 : KB β) : Option β :=
  G68_0 A B (L68_4_0 A B N N) (L68_9_0 A B N N) x0 x1 x2 x3 x4 x5 x6 x7 x8 x9 xa xb xc xd xe xf xg xh xi xj xk xl xm xn xo xp xq xr xs xt xu xv xw xx k0
def P104 : List PT := [(.r (.a [(.i .i64), (.i .i64), (.i .i64), (.i .i64), (.i .i64), .sn, (.i .i64), (.i .i64), .b, .b, .b, .b, .b, .b, .b, .b, .sn, (.i .i64), (.i .i64)])), (.r (.a [(.i .i64), (.i .i64), (.i .i64), (.i .i64), (.i .i64), .sn, (.i .i64), (.i .i64), .b, .b, .b, .b, .b, .b, .b, .b, .sn, (.i .i64), (.i .i64)]))]
def M68_0 {β : Type} (f68_0 : Int → Int → Int → Int → Int → Int → Int → Bool → Bool → Bool → Bool → Bool → Bool → Bool → Bool → Int → Int → Int → Int → Int → Int → Int → Int → Int → Bool → Bool → Bool → Bool → Bool → Bool → Bool → Bool → Int → Int → (KB β) → Option β) (a : List T) : Option ((T → List (List T) → Option β) → Option β) :=
  match gTs P104 a [] with
  | some (.i x0 :: .i x1 :: .i x2 :: .i x3 :: .i x4 :: .i x5 :: .i x6 :: .b x7 :: .b x8 :: .b x9 :: .b xa :: .b xb :: .b xc :: .b xd :: .b xe :: .i xf :: .i xg :: .i xh :: .i xi :: .i xj :: .i xk :: .i xl :: .i xm :: .i xn :: .b xo :: .b xp :: .b xq :: .b xr :: .b xs :: .b xt :: .b xu :: .b xv :: .i xw :: .i xx :: []) => some fun kk => f68_0 x0 x1 x2 x3 x4 x5 x6 x7 x8 x9 xa xb xc xd xe xf xg xh xi xj xk xl xm xn xo xp xq xr xs xt xu xv xw xx (fun xy => kk (tB xy) [])
  | _ => none
theorem e68_0 {β : Type} (A : Pr) (B : Pk) (l68_4_0 : (Q41 β) → Q42 β) (l68_9_0 : (Option β) → Q42 β) (x0 x1 x2 x3 x4 x5 x6 : Int) (x7 x8 x9 xa xb xc xd xe : Bool) (xf xg xh xi xj xk xl xm xn : Int) (xo xp xq xr xs xt xu xv : Bool) (xw xx : Int) (kk : T → List (List T) → Option β) :
    uTs P104 (.i x0 :: .i x1 :: .i x2 :: .i x3 :: .i x4 :: .i x5 :: .i x6 :: .b x7 :: .b x8 :: .b x9 :: .b xa :: .b xb :: .b xc :: .b xd :: .b xe :: .i xf :: .i xg :: .i xh :: .i xi :: .i xj :: .i xk :: .i xl :: .i xm :: .i xn :: .b xo :: .b xp :: .b xq :: .b xr :: .b xs :: .b xt :: .b xu :: .b xv :: .i xw :: .i xx :: []) (fun a _ => bodyK (mkK Try.prog A B [] [(4, M68_4 l68_4_0), (9, M68_9 l68_9_0)] (Hn 68).pt []) Try.f68 a kk) = G68_0 A B l68_4_0 l68_9_0 x0 x1 x2 x3 x4 x5 x6 x7 x8 x9 xa xb xc xd xe xf xg xh xi xj xk xl xm xn xo xp xq xr xs xt xu xv xw xx (fun xy => kk (tB xy) []) := by kernel_rfl
theorem o68_0 {β : Type} (N : Nat) : Snd (β := β) Try.prog Hn 68 (M68_0 (F68_0 re rk N)) := by
  intro a h kk r ha hr
  unfold M68_0 at ha
  split at ha
  · rename_i hs
    cases ha
    have hk := via_pat hs ((e68_0 re rk (L68_4_0 re rk N N) (L68_9_0 re rk N N) _ _ _ _ _ _ _ _ _ _ _ _ _ _ _ _ _ _ _ _ _ _ _ _ _ _ _ _ _ _ _ _ _ _ kk).trans hr)
    exact fn_ok (f := 68) (fn := Try.f68) (H := Hn) (by kernel_rfl) (show SndAll Try.prog Hn [] from trivial) (spots := [.lp X68_4, .lp X68_9]) (by kernel_rfl) ⟨cut_lp (id := 4) i68_4 (ol68_4 N N) (fun s kk => by kernel_rfl), cut_lp (id := 9) i68_9 (ol68_9 N N) (fun s kk => by kernel_rfl), trivial⟩ hk
  · cases ha
def G35_0 {β : Type} (A : Pr) (B : Pk) (f67_0 : Int → Int → Int → Int → Int → Int → Int → Int → Int → Int → Int → Int → (KB β) → Option β) (f68_0 : Int → Int → Int → Int → Int → Int → Int → Bool → Bool → Bool → Bool → Bool → Bool → Bool → Bool → Int → Int → Int → Int → Int → Int → Int → Int → Int → Bool → Bool → Bool → Bool → Bool → Bool → Bool → Bool → Int → Int → (KB β) → Option β) (x0 x1 x2 x3 x4 x5 x6 x7 x8 x9 xa xb xc xd xe xf xg xh xi : Int) (xj xk xl xm xn xo xp xq : Bool) (xr xs xt xu xv xw xx xy xz : Int) (x10 x11 x12 x13 x14 x15 x16 x17 : Bool) (x18 x19 : Int) (k0 : Bool → Bool → Option β) : Option β :=
    f67_0 x0 x1 x2 x3 x4 x5 x6 x7 x8 x9 xa xb (fun x1a =>
    f68_0 xc xd xe xf xg xh xi xj xk xl xm xn xo xp xq xr xs xt xu xv xw xx xy xz x10 x11 x12 x13 x14 x15 x16 x17 x18 x19 (fun x1b =>
      k0 x1a x1b))
def F35_0 {β : Type} (A : Pr) (B : Pk) (N : Nat) (x0 x1 x2 x3 x4 x5 x6 x7 x8 x9 xa xb xc xd xe xf xg xh xi : Int) (xj xk xl xm xn xo xp xq : Bool) (xr xs xt xu xv xw xx xy xz : Int) (x10 x11 x12 x13 x14 x15 x16 x17 : Bool) (x18 x19 : Int) (k0 : Bool → Bool → Option β) : Option β :=
  G35_0 A B (F67_0 A B N) (F68_0 A B N) x0 x1 x2 x3 x4 x5 x6 x7 x8 x9 xa xb xc xd xe xf xg xh xi xj xk xl xm xn xo xp xq xr xs xt xu xv xw xx xy xz x10 x11 x12 x13 x14 x15 x16 x17 x18 x19 k0
def P105 : List PT := [(.r (.a [(.i .i64), (.i .i64), (.i .i64), (.i .i64), (.i .i64), (.i .i64), .sn])), (.r (.a [(.i .i64), (.i .i64), (.i .i64), (.i .i64), (.i .i64), (.i .i64), .sn])), (.r (.a [(.i .i64), (.i .i64), (.i .i64), (.i .i64), (.i .i64), .sn, (.i .i64), (.i .i64), .b, .b, .b, .b, .b, .b, .b, .b, .sn, (.i .i64), (.i .i64)])), (.r (.a [(.i .i64), (.i .i64), (.i .i64), (.i .i64), (.i .i64), .sn, (.i .i64), (.i .i64), .b, .b, .b, .b, .b, .b, .b, .b, .sn, (.i .i64), (.i .i64)]))]
def M35_0 {β : Type} (f35_0 : Int → Int → Int → Int → Int → Int → Int → Int → Int → Int → Int → Int → Int → Int → Int → Int → Int → Int → Int → Bool → Bool → Bool → Bool → Bool → Bool → Bool → Bool → Int → Int → Int → Int → Int → Int → Int → Int → Int → Bool → Bool → Bool → Bool → Bool → Bool → Bool → Bool → Int → Int → (Bool → Bool → Option β) → Option β) (a : List T) : Option ((T → List (List T) → Option β) → Option β) :=
  match gTs P105 a [] with
  | some (.i x0 :: .i x1 :: .i x2 :: .i x3 :: .i x4 :: .i x5 :: .i x6 :: .i x7 :: .i x8 :: .i x9 :: .i xa :: .i xb :: .i xc :: .i xd :: .i xe :: .i xf :: .i xg :: .i xh :: .i xi :: .b xj :: .b xk :: .b xl :: .b xm :: .b xn :: .b xo :: .b xp :: .b xq :: .i xr :: .i xs :: .i xt :: .i xu :: .i xv :: .i xw :: .i xx :: .i xy :: .i xz :: .b x10 :: .b x11 :: .b x12 :: .b x13 :: .b x14 :: .b x15 :: .b x16 :: .b x17 :: .i x18 :: .i x19 :: []) => some fun kk => f35_0 x0 x1 x2 x3 x4 x5 x6 x7 x8 x9 xa xb xc xd xe xf xg xh xi xj xk xl xm xn xo xp xq xr xs xt xu xv xw xx xy xz x10 x11 x12 x13 x14 x15 x16 x17 x18 x19 (fun x1a x1b => kk (T.tp true [(tB x1a), (tB x1b)]) [])
  | _ => none
theorem e35_0 {β : Type} (A : Pr) (B : Pk) (f67_0 : Int → Int → Int → Int → Int → Int → Int → Int → Int → Int → Int → Int → (KB β) → Option β) (f68_0 : Int → Int → Int → Int → Int → Int → Int → Bool → Bool → Bool → Bool → Bool → Bool → Bool → Bool → Int → Int → Int → Int → Int → Int → Int → Int → Int → Bool → Bool → Bool → Bool → Bool → Bool → Bool → Bool → Int → Int → (KB β) → Option β) (x0 x1 x2 x3 x4 x5 x6 x7 x8 x9 xa xb xc xd xe xf xg xh xi : Int) (xj xk xl xm xn xo xp xq : Bool) (xr xs xt xu xv xw xx xy xz : Int) (x10 x11 x12 x13 x14 x15 x16 x17 : Bool) (x18 x19 : Int) (kk : T → List (List T) → Option β) :
    uTs P105 (.i x0 :: .i x1 :: .i x2 :: .i x3 :: .i x4 :: .i x5 :: .i x6 :: .i x7 :: .i x8 :: .i x9 :: .i xa :: .i xb :: .i xc :: .i xd :: .i xe :: .i xf :: .i xg :: .i xh :: .i xi :: .b xj :: .b xk :: .b xl :: .b xm :: .b xn :: .b xo :: .b xp :: .b xq :: .i xr :: .i xs :: .i xt :: .i xu :: .i xv :: .i xw :: .i xx :: .i xy :: .i xz :: .b x10 :: .b x11 :: .b x12 :: .b x13 :: .b x14 :: .b x15 :: .b x16 :: .b x17 :: .i x18 :: .i x19 :: []) (fun a _ => bodyK (mkK Try.prog A B [(67, M67_0 f67_0), (68, M68_0 f68_0)] [] (Hn 35).pt []) Try.f35 a kk) = G35_0 A B f67_0 f68_0 x0 x1 x2 x3 x4 x5 x6 x7 x8 x9 xa xb xc xd xe xf xg xh xi xj xk xl xm xn xo xp xq xr xs xt xu xv xw xx xy xz x10 x11 x12 x13 x14 x15 x16 x17 x18 x19 (fun x1a x1b => kk (T.tp true [(tB x1a), (tB x1b)]) []) := by kernel_rfl
theorem o35_0 {β : Type} (N : Nat) : Snd (β := β) Try.prog Hn 35 (M35_0 (F35_0 re rk N)) := by
  intro a h kk r ha hr
  unfold M35_0 at ha
  split at ha
  · rename_i hs
    cases ha
    have hk := via_pat hs ((e35_0 re rk (F67_0 re rk N) (F68_0 re rk N) _ _ _ _ _ _ _ _ _ _ _ _ _ _ _ _ _ _ _ _ _ _ _ _ _ _ _ _ _ _ _ _ _ _ _ _ _ _ _ _ _ _ _ _ _ _ kk).trans hr)
    exact fn_ok (f := 35) (fn := Try.f35) (H := Hn) (by kernel_rfl) (show SndAll Try.prog Hn [(67, M67_0 (F67_0 re rk N)), (68, M68_0 (F68_0 re rk N))] from ⟨o67_0 N, o68_0 N, trivial⟩) (spots := []) (by kernel_rfl) trivial hk
  · cases ha
noncomputable def X71_5 : Code := atF Try.f71 [true, true, false, true, false, false]
theorem i71_5 : firstReg X71_5 = 5 := by kernel_rfl
def GL71_5_0 {β : Type} (A : Pr) (B : Pk) (l71_5_0 : (Option β) → Q43 β) (k0 : Option β) (x0 x1 x2 x3 x4 x5 x6 x7 x8 x9 xa xb xc xd : Int) : Option β :=
    match (A.cm .lss xd xc) with
    | true => none
    | false => k0
def L71_5_0 {β : Type} (A : Pr) (B : Pk) (N : Nat) : Nat → (Option β) → Q43 β
  | 0, _, _, _, _, _, _, _, _, _, _, _, _, _, _, _ => none
  | n + 1, k0, x0, x1, x2, x3, x4, x5, x6, x7, x8, x9, xa, xb, xc, xd =>
    GL71_5_0 A B (L71_5_0 A B N n) k0 x0 x1 x2 x3 x4 x5 x6 x7 x8 x9 xa xb xc xd
def P106 : List PT := [.us 48]
def S106  : List T := (T.u :: T.u :: T.u :: T.u :: T.u :: T.u :: T.u :: T.u :: T.u :: T.u :: T.u :: T.u :: T.u :: T.u :: T.u :: T.u :: T.u :: T.u :: T.u :: T.u :: T.u :: T.u :: T.u :: T.u :: T.u :: T.u :: T.u :: T.u :: T.u :: T.u :: T.u :: T.u :: T.u :: T.u :: T.u :: T.u :: T.u :: T.u :: T.u :: T.u :: T.u :: T.u :: T.u :: T.u :: T.u :: T.u :: T.u :: T.u :: [])
def P107 : List PT := [.us 2, (.bx [pI, pI, pI, pI, pI, pI, (.r .sn), (.r .sn)]), (.bx [pI, pI, pI, pI, pI, pI, (.r .sn), (.r .sn)]), .us 27, pI, pI, .us 15]
noncomputable def M71_5 {β : Type} (l71_5_0 : (Option β) → Q43 β) (s : List T) : Option ((Ex → List T → Option β) → Option β) :=
  match gTs P107 (clean ((Hn 71).lp 5).1 s) [] with
  | some [.i x0, .i x1, .i x2, .i x3, .i x4, .i x5, .i x6, .i x7, .i x8, .i x9, .i xa, .i xb, .i xc, .i xd] => some fun kk => l71_5_0 (kk (Ex.ex 0) (S106)) x0 x1 x2 x3 x4 x5 x6 x7 x8 x9 xa xb xc xd
  | _ => none
theorem e71_5_0 {β : Type} (A : Pr) (B : Pk) (l71_5_0 : (Option β) → Q43 β) (x0 x1 x2 x3 x4 x5 x6 x7 x8 x9 xa xb xc xd : Int) (kk : Ex → List T → Option β) :
    uTs P107 [.i x0, .i x1, .i x2, .i x3, .i x4, .i x5, .i x6, .i x7, .i x8, .i x9, .i xa, .i xb, .i xc, .i xd] (fun s _ => evK (mkK Try.prog A B [] [] (Hn 71).pt []) X71_5 s (fun e s' => match e with
      | .nm => (match M71_5 l71_5_0 s' with | some h => h kk | none => none)
      | .ex m => kk (.ex m) (clean ((Hn 71).lp (firstReg X71_5)).2 s')
      | .rt => kk .rt (clean ((Hn 71).lp (firstReg X71_5)).2 s'))) = GL71_5_0 A B l71_5_0 (kk (Ex.ex 0) (S106)) x0 x1 x2 x3 x4 x5 x6 x7 x8 x9 xa xb xc xd := by kernel_rfl
theorem ol71_5 {β : Type} (N : Nat) : ∀ n, SndL (β := β) Try.prog Hn (Hn 71) X71_5 (M71_5 (L71_5_0 re rk N n))
  | 0 => by
    intro s h kk r ha hr
    unfold M71_5 at ha
    split at ha
    · cases ha; cases hr
    · cases ha
  | n + 1 => by
    have ih := ol71_5 (β := β) N n
    intro s h kk r ha hr
    unfold M71_5 at ha
    split at ha
    · rename_i hs
      cases ha
      have hk := via_pat hs ((e71_5_0 re rk (L71_5_0 re rk N n) _ _ _ _ _ _ _ _ _ _ _ _ _ _ kk).trans hr)
      exact round_ok (show SndAll Try.prog Hn [] from trivial) (spots := []) (by kernel_rfl) trivial ih (hd := clean ((Hn 71).lp 5).1 s) (by rw [i71_5]) hk
    · cases ha
def G71_0 {β : Type} (A : Pr) (B : Pk) (f35_0 : Int → Int → Int → Int → Int → Int → Int → Int → Int → Int → Int → Int → Int → Int → Int → Int → Int → Int → Int → Bool → Bool → Bool → Bool → Bool → Bool → Bool → Bool → Int → Int → Int → Int → Int → Int → Int → Int → Int → Bool → Bool → Bool → Bool → Bool → Bool → Bool → Bool → Int → Int → (Bool → Bool → Option β) → Option β) (l71_5_0 : (Option β) → Q43 β) (x0 x1 x2 x3 x4 x5 x6 x7 x8 x9 xa xb : Int) (k0 : KB β) : Option β :=
    f35_0 x0 x1 x2 x3 x4 x5 x6 x7 x8 x9 xa xb 0 0 0 0 0 0 0 false false false false false false false false 0 0 0 0 0 0 0 0 0 false false false false false false false false 0 0 (fun xc xd =>
    match (A.bn xc) with
      | true => (k0 false)
      | false => (match (A.cm .neq (A.on 0) (A.on 0)) with
        | true => (k0 false)
        | false => (l71_5_0 (k0 true) x0 x1 x2 x3 x4 x5 x6 x7 x8 x9 xa xb (A.on 0) 0)))
def F71_0 {β : Type} (A : Pr) (B : Pk) (N : Nat) (x0 x1 x2 x3 x4 x5 x6 x7 x8 x9 xa xb : Int) (k0 : KB β) : Option β :=
  G71_0 A B (F35_0 A B N) (L71_5_0 A B N N) x0 x1 x2 x3 x4 x5 x6 x7 x8 x9 xa xb k0
def P108 : List PT := [(.r (.a [(.i .i64), (.i .i64), (.i .i64), (.i .i64), (.i .i64), (.i .i64), .sn, .sn])), (.r (.a [(.i .i64), (.i .i64), (.i .i64), (.i .i64), (.i .i64), (.i .i64), .sn, .sn]))]
def M71_0 {β : Type} (f71_0 : Int → Int → Int → Int → Int → Int → Int → Int → Int → Int → Int → Int → (KB β) → Option β) (a : List T) : Option ((T → List (List T) → Option β) → Option β) :=
  match gTs P108 a [] with
  | some [.i x0, .i x1, .i x2, .i x3, .i x4, .i x5, .i x6, .i x7, .i x8, .i x9, .i xa, .i xb] => some fun kk => f71_0 x0 x1 x2 x3 x4 x5 x6 x7 x8 x9 xa xb (fun xc => kk (tB xc) [])
  | _ => none
theorem e71_0 {β : Type} (A : Pr) (B : Pk) (f35_0 : Int → Int → Int → Int → Int → Int → Int → Int → Int → Int → Int → Int → Int → Int → Int → Int → Int → Int → Int → Bool → Bool → Bool → Bool → Bool → Bool → Bool → Bool → Int → Int → Int → Int → Int → Int → Int → Int → Int → Bool → Bool → Bool → Bool → Bool → Bool → Bool → Bool → Int → Int → (Bool → Bool → Option β) → Option β) (l71_5_0 : (Option β) → Q43 β) (x0 x1 x2 x3 x4 x5 x6 x7 x8 x9 xa xb : Int) (kk : T → List (List T) → Option β) :
    uTs P108 [.i x0, .i x1, .i x2, .i x3, .i x4, .i x5, .i x6, .i x7, .i x8, .i x9, .i xa, .i xb] (fun a _ => bodyK (mkK Try.prog A B [(35, M35_0 f35_0)] [(5, M71_5 l71_5_0)] (Hn 71).pt []) Try.f71 a kk) = G71_0 A B f35_0 l71_5_0 x0 x1 x2 x3 x4 x5 x6 x7 x8 x9 xa xb (fun xc => kk (tB xc) []) := by kernel_rfl
theorem o71_0 {β : Type} (N : Nat) : Snd (β := β) Try.prog Hn 71 (M71_0 (F71_0 re rk N)) := by
  intro a h kk r ha hr
  unfold M71_0 at ha
  split at ha
  · rename_i hs
    cases ha
    have hk := via_pat hs ((e71_0 re rk (F35_0 re rk N) (L71_5_0 re rk N N) _ _ _ _ _ _ _ _ _ _ _ _ kk).trans hr)
    exact fn_ok (f := 71) (fn := Try.f71) (H := Hn) (by kernel_rfl) (show SndAll Try.prog Hn [(35, M35_0 (F35_0 re rk N))] from ⟨o35_0 N, trivial⟩) (spots := [.lp X71_5]) (by kernel_rfl) ⟨cut_lp (id := 5) i71_5 (ol71_5 N N) (fun s kk => by kernel_rfl), trivial⟩ hk
  · cases ha
def G38_0 {β : Type} (A : Pr) (B : Pk) (f71_0 : Int → Int → Int → Int → Int → Int → Int → Int → Int → Int → Int → Int → (KB β) → Option β) (x0 x1 x2 x3 x4 x5 x6 x7 x8 x9 xa xb xc xd : Int) (k0 : KB β) : Option β :=
    match (A.cm .eql x6 xd) with
    | true => (f71_0 x0 x1 x2 x3 x4 x5 x7 x8 x9 xa xb xc (fun xe =>
      k0 xe))
    | false => (k0 false)
def F38_0 {β : Type} (A : Pr) (B : Pk) (N : Nat) (x0 x1 x2 x3 x4 x5 x6 x7 x8 x9 xa xb xc xd : Int) (k0 : KB β) : Option β :=
  G38_0 A B (F71_0 A B N) x0 x1 x2 x3 x4 x5 x6 x7 x8 x9 xa xb xc xd k0
def P109 : List PT := [(.r (.a [(.i .i64), (.i .i64), (.i .i64), (.i .i64), (.i .i64), (.i .i64), .sn, .sn])), pI, (.r (.a [(.i .i64), (.i .i64), (.i .i64), (.i .i64), (.i .i64), (.i .i64), .sn, .sn])), pI]
def M38_0 {β : Type} (f38_0 : Int → Int → Int → Int → Int → Int → Int → Int → Int → Int → Int → Int → Int → Int → (KB β) → Option β) (a : List T) : Option ((T → List (List T) → Option β) → Option β) :=
  match gTs P109 a [] with
  | some [.i x0, .i x1, .i x2, .i x3, .i x4, .i x5, .i x6, .i x7, .i x8, .i x9, .i xa, .i xb, .i xc, .i xd] => some fun kk => f38_0 x0 x1 x2 x3 x4 x5 x6 x7 x8 x9 xa xb xc xd (fun xe => kk (tB xe) [])
  | _ => none
theorem e38_0 {β : Type} (A : Pr) (B : Pk) (f71_0 : Int → Int → Int → Int → Int → Int → Int → Int → Int → Int → Int → Int → (KB β) → Option β) (x0 x1 x2 x3 x4 x5 x6 x7 x8 x9 xa xb xc xd : Int) (kk : T → List (List T) → Option β) :
    uTs P109 [.i x0, .i x1, .i x2, .i x3, .i x4, .i x5, .i x6, .i x7, .i x8, .i x9, .i xa, .i xb, .i xc, .i xd] (fun a _ => bodyK (mkK Try.prog A B [(71, M71_0 f71_0)] [] (Hn 38).pt []) Try.f38 a kk) = G38_0 A B f71_0 x0 x1 x2 x3 x4 x5 x6 x7 x8 x9 xa xb xc xd (fun xe => kk (tB xe) []) := by kernel_rfl
theorem o38_0 {β : Type} (N : Nat) : Snd (β := β) Try.prog Hn 38 (M38_0 (F38_0 re rk N)) := by
  intro a h kk r ha hr
  unfold M38_0 at ha
  split at ha
  · rename_i hs
    cases ha
    have hk := via_pat hs ((e38_0 re rk (F71_0 re rk N) _ _ _ _ _ _ _ _ _ _ _ _ _ _ kk).trans hr)
    exact fn_ok (f := 38) (fn := Try.f38) (H := Hn) (by kernel_rfl) (show SndAll Try.prog Hn [(71, M71_0 (F71_0 re rk N))] from ⟨o71_0 N, trivial⟩) (spots := []) (by kernel_rfl) trivial hk
  · cases ha
def GL67_4t1_0 {β : Type} (A : Pr) (B : Pk) (l67_4t1_0 : (Option β) → Q44 β) (k0 : Option β) (x0 x1 x2 x3 x4 x5 x6 x7 x8 x9 xa xb : Int) (xc : List R) (xd : Int) : Option β :=
    match (A.cm .lss xd (A.on 0)) with
    | true => none
    | false => k0
def L67_4t1_0 {β : Type} (A : Pr) (B : Pk) (N : Nat) : Nat → (Option β) → Q44 β
  | 0, _, _, _, _, _, _, _, _, _, _, _, _, _, _, _ => none
  | n + 1, k0, x0, x1, x2, x3, x4, x5, x6, x7, x8, x9, xa, xb, xc, xd =>
    GL67_4t1_0 A B (L67_4t1_0 A B N n) k0 x0 x1 x2 x3 x4 x5 x6 x7 x8 x9 xa xb xc xd
def P110 : List PT := [.us 2, (.bx [pI, pI, pI, pI, pI, pI, (.r .sn)]), (.bx [pI, pI, pI, pI, pI, pI, (.r (.ro 4))]), .us 1, pI, .us 46]
noncomputable def M67_4t1 {β : Type} (l67_4t1_0 : (Option β) → Q44 β) (s : List T) : Option ((Ex → List T → Option β) → Option β) :=
  match gTs P110 (clean ((Hn 67).lp 4).1 s) [] with
  | some [.i x0, .i x1, .i x2, .i x3, .i x4, .i x5, .i x6, .i x7, .i x8, .i x9, .i xa, .i xb, .l xc, .i xd] => some fun kk => l67_4t1_0 (kk (Ex.ex 0) (S97)) x0 x1 x2 x3 x4 x5 x6 x7 x8 x9 xa xb xc xd
  | _ => none
theorem e67_4t1_0 {β : Type} (A : Pr) (B : Pk) (l67_4t1_0 : (Option β) → Q44 β) (x0 x1 x2 x3 x4 x5 x6 x7 x8 x9 xa xb : Int) (xc : List R) (xd : Int) (kk : Ex → List T → Option β) :
    uTs P110 [.i x0, .i x1, .i x2, .i x3, .i x4, .i x5, .i x6, .i x7, .i x8, .i x9, .i xa, .i xb, .l xc, .i xd] (fun s _ => evK (mkK Try.prog A B [] [] (Hn 67).pt []) X67_4 s (fun e s' => match e with
      | .nm => (match M67_4t1 l67_4t1_0 s' with | some h => h kk | none => none)
      | .ex m => kk (.ex m) (clean ((Hn 67).lp (firstReg X67_4)).2 s')
      | .rt => kk .rt (clean ((Hn 67).lp (firstReg X67_4)).2 s'))) = GL67_4t1_0 A B l67_4t1_0 (kk (Ex.ex 0) (S97)) x0 x1 x2 x3 x4 x5 x6 x7 x8 x9 xa xb xc xd := by kernel_rfl
theorem ol67_4t1 {β : Type} (N : Nat) : ∀ n, SndL (β := β) Try.prog Hn (Hn 67) X67_4 (M67_4t1 (L67_4t1_0 re rk N n))
  | 0 => by
    intro s h kk r ha hr
    unfold M67_4t1 at ha
    split at ha
    · cases ha; cases hr
    · cases ha
  | n + 1 => by
    have ih := ol67_4t1 (β := β) N n
    intro s h kk r ha hr
    unfold M67_4t1 at ha
    split at ha
    · rename_i hs
      cases ha
      have hk := via_pat hs ((e67_4t1_0 re rk (L67_4t1_0 re rk N n) _ _ _ _ _ _ _ _ _ _ _ _ _ _ kk).trans hr)
      exact round_ok (show SndAll Try.prog Hn [] from trivial) (spots := []) (by kernel_rfl) trivial ih (hd := clean ((Hn 67).lp 4).1 s) (by rw [i67_4]) hk
    · cases ha
def G67_1 {β : Type} (A : Pr) (B : Pk) (l67_4t1_0 : (Option β) → Q44 β) (x0 x1 x2 x3 x4 x5 x6 x7 x8 x9 xa xb : Int) (xc : List R) (k0 : KB β) : Option β :=
    match (A.bn (A.ba (A.cm .eql x0 x6) (A.ba (A.cm .eql x1 x7) (A.ba (A.cm .eql x2 x8) (A.ba (A.cm .eql x3 x9) true))))) with
    | true => (k0 false)
    | false => (match (A.cm .neq x4 xa) with
      | true => (k0 false)
      | false => (match (A.cm .neq x5 xb) with
        | true => (k0 false)
        | false => (match (A.cm .neq (A.on 0) (A.on (A.len xc))) with
          | true => (k0 false)
          | false => (l67_4t1_0 (k0 true) x0 x1 x2 x3 x4 x5 x6 x7 x8 x9 xa xb xc 0))))
def F67_1 {β : Type} (A : Pr) (B : Pk) (N : Nat) (x0 x1 x2 x3 x4 x5 x6 x7 x8 x9 xa xb : Int) (xc : List R) (k0 : KB β) : Option β :=
  G67_1 A B (L67_4t1_0 A B N N) x0 x1 x2 x3 x4 x5 x6 x7 x8 x9 xa xb xc k0
def P111 : List PT := [(.r (.a [(.i .i64), (.i .i64), (.i .i64), (.i .i64), (.i .i64), (.i .i64), .sn])), (.r (.a [(.i .i64), (.i .i64), (.i .i64), (.i .i64), (.i .i64), (.i .i64), (.ro 4)]))]
def M67_1 {β : Type} (f67_1 : Int → Int → Int → Int → Int → Int → Int → Int → Int → Int → Int → Int → List R → (KB β) → Option β) (a : List T) : Option ((T → List (List T) → Option β) → Option β) :=
  match gTs P111 a [] with
  | some [.i x0, .i x1, .i x2, .i x3, .i x4, .i x5, .i x6, .i x7, .i x8, .i x9, .i xa, .i xb, .l xc] => some fun kk => f67_1 x0 x1 x2 x3 x4 x5 x6 x7 x8 x9 xa xb xc (fun xd => kk (tB xd) [])
  | _ => none
theorem e67_1 {β : Type} (A : Pr) (B : Pk) (l67_4t1_0 : (Option β) → Q44 β) (x0 x1 x2 x3 x4 x5 x6 x7 x8 x9 xa xb : Int) (xc : List R) (kk : T → List (List T) → Option β) :
    uTs P111 [.i x0, .i x1, .i x2, .i x3, .i x4, .i x5, .i x6, .i x7, .i x8, .i x9, .i xa, .i xb, .l xc] (fun a _ => bodyK (mkK Try.prog A B [] [(4, M67_4t1 l67_4t1_0)] (Hn 67).pt []) Try.f67 a kk) = G67_1 A B l67_4t1_0 x0 x1 x2 x3 x4 x5 x6 x7 x8 x9 xa xb xc (fun xd => kk (tB xd) []) := by kernel_rfl
theorem o67_1 {β : Type} (N : Nat) : Snd (β := β) Try.prog Hn 67 (M67_1 (F67_1 re rk N)) := by
  intro a h kk r ha hr
  unfold M67_1 at ha
  split at ha
  · rename_i hs
    cases ha
    have hk := via_pat hs ((e67_1 re rk (L67_4t1_0 re rk N N) _ _ _ _ _ _ _ _ _ _ _ _ _ kk).trans hr)
    exact fn_ok (f := 67) (fn := Try.f67) (H := Hn) (by kernel_rfl) (show SndAll Try.prog Hn [] from trivial) (spots := [.lp X67_4]) (by kernel_rfl) ⟨cut_lp (id := 4) i67_4 (ol67_4t1 N N) (fun s kk => by kernel_rfl), trivial⟩ hk
  · cases ha
def G35_1 {β : Type} (A : Pr) (B : Pk) (f67_1 : Int → Int → Int → Int → Int → Int → Int → Int → Int → Int → Int → Int → List R → (KB β) → Option β) (f68_0 : Int → Int → Int → Int → Int → Int → Int → Bool → Bool → Bool → Bool → Bool → Bool → Bool → Bool → Int → Int → Int → Int → Int → Int → Int → Int → Int → Bool → Bool → Bool → Bool → Bool → Bool → Bool → Bool → Int → Int → (KB β) → Option β) (x0 x1 x2 x3 x4 x5 x6 x7 x8 x9 xa xb : Int) (xc : List R) (xd xe xf xg xh xi xj : Int) (xk xl xm xn xo xp xq xr : Bool) (xs xt xu xv xw xx xy xz x10 : Int) (x11 x12 x13 x14 x15 x16 x17 x18 : Bool) (x19 x1a : Int) (k0 : Bool → Bool → Option β) : Option β :=
    f67_1 x0 x1 x2 x3 x4 x5 x6 x7 x8 x9 xa xb xc (fun x1b =>
    f68_0 xd xe xf xg xh xi xj xk xl xm xn xo xp xq xr xs xt xu xv xw xx xy xz x10 x11 x12 x13 x14 x15 x16 x17 x18 x19 x1a (fun x1c =>
      k0 x1b x1c))
def F35_1 {β : Type} (A : Pr) (B : Pk) (N : Nat) (x0 x1 x2 x3 x4 x5 x6 x7 x8 x9 xa xb : Int) (xc : List R) (xd xe xf xg xh xi xj : Int) (xk xl xm xn xo xp xq xr : Bool) (xs xt xu xv xw xx xy xz x10 : Int) (x11 x12 x13 x14 x15 x16 x17 x18 : Bool) (x19 x1a : Int) (k0 : Bool → Bool → Option β) : Option β :=
  G35_1 A B (F67_1 A B N) (F68_0 A B N) x0 x1 x2 x3 x4 x5 x6 x7 x8 x9 xa xb xc xd xe xf xg xh xi xj xk xl xm xn xo xp xq xr xs xt xu xv xw xx xy xz x10 x11 x12 x13 x14 x15 x16 x17 x18 x19 x1a k0
def P112 : List PT := [(.r (.a [(.i .i64), (.i .i64), (.i .i64), (.i .i64), (.i .i64), (.i .i64), .sn])), (.r (.a [(.i .i64), (.i .i64), (.i .i64), (.i .i64), (.i .i64), (.i .i64), (.ro 4)])), (.r (.a [(.i .i64), (.i .i64), (.i .i64), (.i .i64), (.i .i64), .sn, (.i .i64), (.i .i64), .b, .b, .b, .b, .b, .b, .b, .b, .sn, (.i .i64), (.i .i64)])), (.r (.a [(.i .i64), (.i .i64), (.i .i64), (.i .i64), (.i .i64), .sn, (.i .i64), (.i .i64), .b, .b, .b, .b, .b, .b, .b, .b, .sn, (.i .i64), (.i .i64)]))]
def M35_1 {β : Type} (f35_1 : Int → Int → Int → Int → Int → Int → Int → Int → Int → Int → Int → Int → List R → Int → Int → Int → Int → Int → Int → Int → Bool → Bool → Bool → Bool → Bool → Bool → Bool → Bool → Int → Int → Int → Int → Int → Int → Int → Int → Int → Bool → Bool → Bool → Bool → Bool → Bool → Bool → Bool → Int → Int → (Bool → Bool → Option β) → Option β) (a : List T) : Option ((T → List (List T) → Option β) → Option β) :=
  match gTs P112 a [] with
  | some (.i x0 :: .i x1 :: .i x2 :: .i x3 :: .i x4 :: .i x5 :: .i x6 :: .i x7 :: .i x8 :: .i x9 :: .i xa :: .i xb :: .l xc :: .i xd :: .i xe :: .i xf :: .i xg :: .i xh :: .i xi :: .i xj :: .b xk :: .b xl :: .b xm :: .b xn :: .b xo :: .b xp :: .b xq :: .b xr :: .i xs :: .i xt :: .i xu :: .i xv :: .i xw :: .i xx :: .i xy :: .i xz :: .i x10 :: .b x11 :: .b x12 :: .b x13 :: .b x14 :: .b x15 :: .b x16 :: .b x17 :: .b x18 :: .i x19 :: .i x1a :: []) => some fun kk => f35_1 x0 x1 x2 x3 x4 x5 x6 x7 x8 x9 xa xb xc xd xe xf xg xh xi xj xk xl xm xn xo xp xq xr xs xt xu xv xw xx xy xz x10 x11 x12 x13 x14 x15 x16 x17 x18 x19 x1a (fun x1b x1c => kk (T.tp true [(tB x1b), (tB x1c)]) [])
  | _ => none
theorem e35_1 {β : Type} (A : Pr) (B : Pk) (f67_1 : Int → Int → Int → Int → Int → Int → Int → Int → Int → Int → Int → Int → List R → (KB β) → Option β) (f68_0 : Int → Int → Int → Int → Int → Int → Int → Bool → Bool → Bool → Bool → Bool → Bool → Bool → Bool → Int → Int → Int → Int → Int → Int → Int → Int → Int → Bool → Bool → Bool → Bool → Bool → Bool → Bool → Bool → Int → Int → (KB β) → Option β) (x0 x1 x2 x3 x4 x5 x6 x7 x8 x9 xa xb : Int) (xc : List R) (xd xe xf xg xh xi xj : Int) (xk xl xm xn xo xp xq xr : Bool) (xs xt xu xv xw xx xy xz x10 : Int) (x11 x12 x13 x14 x15 x16 x17 x18 : Bool) (x19 x1a : Int) (kk : T → List (List T) → Option β) :
    uTs P112 (.i x0 :: .i x1 :: .i x2 :: .i x3 :: .i x4 :: .i x5 :: .i x6 :: .i x7 :: .i x8 :: .i x9 :: .i xa :: .i xb :: .l xc :: .i xd :: .i xe :: .i xf :: .i xg :: .i xh :: .i xi :: .i xj :: .b xk :: .b xl :: .b xm :: .b xn :: .b xo :: .b xp :: .b xq :: .b xr :: .i xs :: .i xt :: .i xu :: .i xv :: .i xw :: .i xx :: .i xy :: .i xz :: .i x10 :: .b x11 :: .b x12 :: .b x13 :: .b x14 :: .b x15 :: .b x16 :: .b x17 :: .b x18 :: .i x19 :: .i x1a :: []) (fun a _ => bodyK (mkK Try.prog A B [(67, M67_1 f67_1), (68, M68_0 f68_0)] [] (Hn 35).pt []) Try.f35 a kk) = G35_1 A B f67_1 f68_0 x0 x1 x2 x3 x4 x5 x6 x7 x8 x9 xa xb xc xd xe xf xg xh xi xj xk xl xm xn xo xp xq xr xs xt xu xv xw xx xy xz x10 x11 x12 x13 x14 x15 x16 x17 x18 x19 x1a (fun x1b x1c => kk (T.tp true [(tB x1b), (tB x1c)]) []) := by kernel_rfl
theorem o35_1 {β : Type} (N : Nat) : Snd (β := β) Try.prog Hn 35 (M35_1 (F35_1 re rk N)) := by
  intro a h kk r ha hr
  unfold M35_1 at ha
  split at ha
  · rename_i hs
    cases ha
    have hk := via_pat hs ((e35_1 re rk (F67_1 re rk N) (F68_0 re rk N) _ _ _ _ _ _ _ _ _ _ _ _ _ _ _ _ _ _ _ _ _ _ _ _ _ _ _ _ _ _ _ _ _ _ _ _ _ _ _ _ _ _ _ _ _ _ _ kk).trans hr)
    exact fn_ok (f := 35) (fn := Try.f35) (H := Hn) (by kernel_rfl) (show SndAll Try.prog Hn [(67, M67_1 (F67_1 re rk N)), (68, M68_0 (F68_0 re rk N))] from ⟨o67_1 N, o68_0 N, trivial⟩) (spots := []) (by kernel_rfl) trivial hk
  · cases ha
def GL71_5t1_0 {β : Type} (A : Pr) (B : Pk) (l71_5t1_0 : (Option β) → Q45 β) (k0 : Option β) (x0 x1 x2 x3 x4 x5 x6 x7 x8 x9 xa xb : Int) (xc : List R) (xd xe : Int) : Option β :=
    match (A.cm .lss xe xd) with
    | true => none
    | false => k0
def L71_5t1_0 {β : Type} (A : Pr) (B : Pk) (N : Nat) : Nat → (Option β) → Q45 β
  | 0, _, _, _, _, _, _, _, _, _, _, _, _, _, _, _, _ => none
  | n + 1, k0, x0, x1, x2, x3, x4, x5, x6, x7, x8, x9, xa, xb, xc, xd, xe =>
    GL71_5t1_0 A B (L71_5t1_0 A B N n) k0 x0 x1 x2 x3 x4 x5 x6 x7 x8 x9 xa xb xc xd xe
def P113 : List PT := [.us 2, (.bx [pI, pI, pI, pI, pI, pI, (.r .sn), (.r .sn)]), (.bx [pI, pI, pI, pI, pI, pI, (.r (.ro 4)), (.r .sn)]), .us 27, pI, pI, .us 15]
noncomputable def M71_5t1 {β : Type} (l71_5t1_0 : (Option β) → Q45 β) (s : List T) : Option ((Ex → List T → Option β) → Option β) :=
  match gTs P113 (clean ((Hn 71).lp 5).1 s) [] with
  | some [.i x0, .i x1, .i x2, .i x3, .i x4, .i x5, .i x6, .i x7, .i x8, .i x9, .i xa, .i xb, .l xc, .i xd, .i xe] => some fun kk => l71_5t1_0 (kk (Ex.ex 0) (S106)) x0 x1 x2 x3 x4 x5 x6 x7 x8 x9 xa xb xc xd xe
  | _ => none
theorem e71_5t1_0 {β : Type} (A : Pr) (B : Pk) (l71_5t1_0 : (Option β) → Q45 β) (x0 x1 x2 x3 x4 x5 x6 x7 x8 x9 xa xb : Int) (xc : List R) (xd xe : Int) (kk : Ex → List T → Option β) :
    uTs P113 [.i x0, .i x1, .i x2, .i x3, .i x4, .i x5, .i x6, .i x7, .i x8, .i x9, .i xa, .i xb, .l xc, .i xd, .i xe] (fun s _ => evK (mkK Try.prog A B [] [] (Hn 71).pt []) X71_5 s (fun e s' => match e with
      | .nm => (match M71_5t1 l71_5t1_0 s' with | some h => h kk | none => none)
      | .ex m => kk (.ex m) (clean ((Hn 71).lp (firstReg X71_5)).2 s')
      | .rt => kk .rt (clean ((Hn 71).lp (firstReg X71_5)).2 s'))) = GL71_5t1_0 A B l71_5t1_0 (kk (Ex.ex 0) (S106)) x0 x1 x2 x3 x4 x5 x6 x7 x8 x9 xa xb xc xd xe := by kernel_rfl
theorem ol71_5t1 {β : Type} (N : Nat) : ∀ n, SndL (β := β) Try.prog Hn (Hn 71) X71_5 (M71_5t1 (L71_5t1_0 re rk N n))
  | 0 => by
    intro s h kk r ha hr
    unfold M71_5t1 at ha
    split at ha
    · cases ha; cases hr
    · cases ha
  | n + 1 => by
    have ih := ol71_5t1 (β := β) N n
    intro s h kk r ha hr
    unfold M71_5t1 at ha
    split at ha
    · rename_i hs
      cases ha
      have hk := via_pat hs ((e71_5t1_0 re rk (L71_5t1_0 re rk N n) _ _ _ _ _ _ _ _ _ _ _ _ _ _ _ kk).trans hr)
      exact round_ok (show SndAll Try.prog Hn [] from trivial) (spots := []) (by kernel_rfl) trivial ih (hd := clean ((Hn 71).lp 5).1 s) (by rw [i71_5]) hk
    · cases ha
def G71_1 {β : Type} (A : Pr) (B : Pk) (f35_1 : Int → Int → Int → Int → Int → Int → Int → Int → Int → Int → Int → Int → List R → Int → Int → Int → Int → Int → Int → Int → Bool → Bool → Bool → Bool → Bool → Bool → Bool → Bool → Int → Int → Int → Int → Int → Int → Int → Int → Int → Bool → Bool → Bool → Bool → Bool → Bool → Bool → Bool → Int → Int → (Bool → Bool → Option β) → Option β) (l71_5t1_0 : (Option β) → Q45 β) (x0 x1 x2 x3 x4 x5 x6 x7 x8 x9 xa xb : Int) (xc : List R) (k0 : KB β) : Option β :=
    f35_1 x0 x1 x2 x3 x4 x5 x6 x7 x8 x9 xa xb xc 0 0 0 0 0 0 0 false false false false false false false false 0 0 0 0 0 0 0 0 0 false false false false false false false false 0 0 (fun xd xe =>
    match (A.bn xd) with
      | true => (k0 false)
      | false => (match (A.cm .neq (A.on 0) (A.on 0)) with
        | true => (k0 false)
        | false => (l71_5t1_0 (k0 true) x0 x1 x2 x3 x4 x5 x6 x7 x8 x9 xa xb xc (A.on 0) 0)))
def F71_1 {β : Type} (A : Pr) (B : Pk) (N : Nat) (x0 x1 x2 x3 x4 x5 x6 x7 x8 x9 xa xb : Int) (xc : List R) (k0 : KB β) : Option β :=
  G71_1 A B (F35_1 A B N) (L71_5t1_0 A B N N) x0 x1 x2 x3 x4 x5 x6 x7 x8 x9 xa xb xc k0
def P114 : List PT := [(.r (.a [(.i .i64), (.i .i64), (.i .i64), (.i .i64), (.i .i64), (.i .i64), .sn, .sn])), (.r (.a [(.i .i64), (.i .i64), (.i .i64), (.i .i64), (.i .i64), (.i .i64), (.ro 4), .sn]))]
def M71_1 {β : Type} (f71_1 : Int → Int → Int → Int → Int → Int → Int → Int → Int → Int → Int → Int → List R → (KB β) → Option β) (a : List T) : Option ((T → List (List T) → Option β) → Option β) :=
  match gTs P114 a [] with
  | some [.i x0, .i x1, .i x2, .i x3, .i x4, .i x5, .i x6, .i x7, .i x8, .i x9, .i xa, .i xb, .l xc] => some fun kk => f71_1 x0 x1 x2 x3 x4 x5 x6 x7 x8 x9 xa xb xc (fun xd => kk (tB xd) [])
  | _ => none
theorem e71_1 {β : Type} (A : Pr) (B : Pk) (f35_1 : Int → Int → Int → Int → Int → Int → Int → Int → Int → Int → Int → Int → List R → Int → Int → Int → Int → Int → Int → Int → Bool → Bool → Bool → Bool → Bool → Bool → Bool → Bool → Int → Int → Int → Int → Int → Int → Int → Int → Int → Bool → Bool → Bool → Bool → Bool → Bool → Bool → Bool → Int → Int → (Bool → Bool → Option β) → Option β) (l71_5t1_0 : (Option β) → Q45 β) (x0 x1 x2 x3 x4 x5 x6 x7 x8 x9 xa xb : Int) (xc : List R) (kk : T → List (List T) → Option β) :
    uTs P114 [.i x0, .i x1, .i x2, .i x3, .i x4, .i x5, .i x6, .i x7, .i x8, .i x9, .i xa, .i xb, .l xc] (fun a _ => bodyK (mkK Try.prog A B [(35, M35_1 f35_1)] [(5, M71_5t1 l71_5t1_0)] (Hn 71).pt []) Try.f71 a kk) = G71_1 A B f35_1 l71_5t1_0 x0 x1 x2 x3 x4 x5 x6 x7 x8 x9 xa xb xc (fun xd => kk (tB xd) []) := by kernel_rfl
theorem o71_1 {β : Type} (N : Nat) : Snd (β := β) Try.prog Hn 71 (M71_1 (F71_1 re rk N)) := by
  intro a h kk r ha hr
  unfold M71_1 at ha
  split at ha
  · rename_i hs
    cases ha
    have hk := via_pat hs ((e71_1 re rk (F35_1 re rk N) (L71_5t1_0 re rk N N) _ _ _ _ _ _ _ _ _ _ _ _ _ kk).trans hr)
    exact fn_ok (f := 71) (fn := Try.f71) (H := Hn) (by kernel_rfl) (show SndAll Try.prog Hn [(35, M35_1 (F35_1 re rk N))] from ⟨o35_1 N, trivial⟩) (spots := [.lp X71_5]) (by kernel_rfl) ⟨cut_lp (id := 5) i71_5 (ol71_5t1 N N) (fun s kk => by kernel_rfl), trivial⟩ hk
  · cases ha
def G38_1 {β : Type} (A : Pr) (B : Pk) (f71_1 : Int → Int → Int → Int → Int → Int → Int → Int → Int → Int → Int → Int → List R → (KB β) → Option β) (x0 x1 x2 x3 x4 x5 x6 x7 x8 x9 xa xb xc : Int) (xd : List R) (xe : Int) (k0 : KB β) : Option β :=
    match (A.cm .eql x6 xe) with
    | true => (f71_1 x0 x1 x2 x3 x4 x5 x7 x8 x9 xa xb xc xd (fun xf =>
      k0 xf))
    | false => (k0 false)
def F38_1 {β : Type} (A : Pr) (B : Pk) (N : Nat) (x0 x1 x2 x3 x4 x5 x6 x7 x8 x9 xa xb xc : Int) (xd : List R) (xe : Int) (k0 : KB β) : Option β :=
  G38_1 A B (F71_1 A B N) x0 x1 x2 x3 x4 x5 x6 x7 x8 x9 xa xb xc xd xe k0
def P115 : List PT := [(.r (.a [(.i .i64), (.i .i64), (.i .i64), (.i .i64), (.i .i64), (.i .i64), .sn, .sn])), pI, (.r (.a [(.i .i64), (.i .i64), (.i .i64), (.i .i64), (.i .i64), (.i .i64), (.ro 4), .sn])), pI]
def M38_1 {β : Type} (f38_1 : Int → Int → Int → Int → Int → Int → Int → Int → Int → Int → Int → Int → Int → List R → Int → (KB β) → Option β) (a : List T) : Option ((T → List (List T) → Option β) → Option β) :=
  match gTs P115 a [] with
  | some [.i x0, .i x1, .i x2, .i x3, .i x4, .i x5, .i x6, .i x7, .i x8, .i x9, .i xa, .i xb, .i xc, .l xd, .i xe] => some fun kk => f38_1 x0 x1 x2 x3 x4 x5 x6 x7 x8 x9 xa xb xc xd xe (fun xf => kk (tB xf) [])
  | _ => none
theorem e38_1 {β : Type} (A : Pr) (B : Pk) (f71_1 : Int → Int → Int → Int → Int → Int → Int → Int → Int → Int → Int → Int → List R → (KB β) → Option β) (x0 x1 x2 x3 x4 x5 x6 x7 x8 x9 xa xb xc : Int) (xd : List R) (xe : Int) (kk : T → List (List T) → Option β) :
    uTs P115 [.i x0, .i x1, .i x2, .i x3, .i x4, .i x5, .i x6, .i x7, .i x8, .i x9, .i xa, .i xb, .i xc, .l xd, .i xe] (fun a _ => bodyK (mkK Try.prog A B [(71, M71_1 f71_1)] [] (Hn 38).pt []) Try.f38 a kk) = G38_1 A B f71_1 x0 x1 x2 x3 x4 x5 x6 x7 x8 x9 xa xb xc xd xe (fun xf => kk (tB xf) []) := by kernel_rfl
theorem o38_1 {β : Type} (N : Nat) : Snd (β := β) Try.prog Hn 38 (M38_1 (F38_1 re rk N)) := by
  intro a h kk r ha hr
  unfold M38_1 at ha
  split at ha
  · rename_i hs
    cases ha
    have hk := via_pat hs ((e38_1 re rk (F71_1 re rk N) _ _ _ _ _ _ _ _ _ _ _ _ _ _ _ kk).trans hr)
    exact fn_ok (f := 38) (fn := Try.f38) (H := Hn) (by kernel_rfl) (show SndAll Try.prog Hn [(71, M71_1 (F71_1 re rk N))] from ⟨o71_1 N, trivial⟩) (spots := []) (by kernel_rfl) trivial hk
  · cases ha
def GL71_5t2_0 {β : Type} (A : Pr) (B : Pk) (l71_5t2_0 : (Option β) → Q46 β) (k0 : Option β) (x0 x1 x2 x3 x4 x5 x6 x7 x8 x9 xa xb : Int) (xc xd : List R) (xe xf : Int) : Option β :=
    match (A.cm .lss xf xe) with
    | true => none
    | false => k0
def L71_5t2_0 {β : Type} (A : Pr) (B : Pk) (N : Nat) : Nat → (Option β) → Q46 β
  | 0, _, _, _, _, _, _, _, _, _, _, _, _, _, _, _, _, _ => none
  | n + 1, k0, x0, x1, x2, x3, x4, x5, x6, x7, x8, x9, xa, xb, xc, xd, xe, xf =>
    GL71_5t2_0 A B (L71_5t2_0 A B N n) k0 x0 x1 x2 x3 x4 x5 x6 x7 x8 x9 xa xb xc xd xe xf
def P116 : List PT := [.us 2, (.bx [pI, pI, pI, pI, pI, pI, (.r .sn), (.r .sn)]), (.bx [pI, pI, pI, pI, pI, pI, (.r (.ro 4)), (.r (.ro 5))]), .us 27, pI, pI, .us 15]
noncomputable def M71_5t2 {β : Type} (l71_5t2_0 : (Option β) → Q46 β) (s : List T) : Option ((Ex → List T → Option β) → Option β) :=
  match gTs P116 (clean ((Hn 71).lp 5).1 s) [] with
  | some [.i x0, .i x1, .i x2, .i x3, .i x4, .i x5, .i x6, .i x7, .i x8, .i x9, .i xa, .i xb, .l xc, .l xd, .i xe, .i xf] => some fun kk => l71_5t2_0 (kk (Ex.ex 0) (S106)) x0 x1 x2 x3 x4 x5 x6 x7 x8 x9 xa xb xc xd xe xf
  | _ => none
theorem e71_5t2_0 {β : Type} (A : Pr) (B : Pk) (l71_5t2_0 : (Option β) → Q46 β) (x0 x1 x2 x3 x4 x5 x6 x7 x8 x9 xa xb : Int) (xc xd : List R) (xe xf : Int) (kk : Ex → List T → Option β) :
    uTs P116 [.i x0, .i x1, .i x2, .i x3, .i x4, .i x5, .i x6, .i x7, .i x8, .i x9, .i xa, .i xb, .l xc, .l xd, .i xe, .i xf] (fun s _ => evK (mkK Try.prog A B [] [] (Hn 71).pt []) X71_5 s (fun e s' => match e with
      | .nm => (match M71_5t2 l71_5t2_0 s' with | some h => h kk | none => none)
      | .ex m => kk (.ex m) (clean ((Hn 71).lp (firstReg X71_5)).2 s')
      | .rt => kk .rt (clean ((Hn 71).lp (firstReg X71_5)).2 s'))) = GL71_5t2_0 A B l71_5t2_0 (kk (Ex.ex 0) (S106)) x0 x1 x2 x3 x4 x5 x6 x7 x8 x9 xa xb xc xd xe xf := by kernel_rfl
theorem ol71_5t2 {β : Type} (N : Nat) : ∀ n, SndL (β := β) Try.prog Hn (Hn 71) X71_5 (M71_5t2 (L71_5t2_0 re rk N n))
  | 0 => by
    intro s h kk r ha hr
    unfold M71_5t2 at ha
    split at ha
    · cases ha; cases hr
    · cases ha
  | n + 1 => by
    have ih := ol71_5t2 (β := β) N n
    intro s h kk r ha hr
    unfold M71_5t2 at ha
    split at ha
    · rename_i hs
      cases ha
      have hk := via_pat hs ((e71_5t2_0 re rk (L71_5t2_0 re rk N n) _ _ _ _ _ _ _ _ _ _ _ _ _ _ _ _ kk).trans hr)
      exact round_ok (show SndAll Try.prog Hn [] from trivial) (spots := []) (by kernel_rfl) trivial ih (hd := clean ((Hn 71).lp 5).1 s) (by rw [i71_5]) hk
    · cases ha
def G71_2 {β : Type} (A : Pr) (B : Pk) (f35_1 : Int → Int → Int → Int → Int → Int → Int → Int → Int → Int → Int → Int → List R → Int → Int → Int → Int → Int → Int → Int → Bool → Bool → Bool → Bool → Bool → Bool → Bool → Bool → Int → Int → Int → Int → Int → Int → Int → Int → Int → Bool → Bool → Bool → Bool → Bool → Bool → Bool → Bool → Int → Int → (Bool → Bool → Option β) → Option β) (l71_5t2_0 : (Option β) → Q46 β) (x0 x1 x2 x3 x4 x5 x6 x7 x8 x9 xa xb : Int) (xc xd : List R) (k0 : KB β) : Option β :=
    f35_1 x0 x1 x2 x3 x4 x5 x6 x7 x8 x9 xa xb xc 0 0 0 0 0 0 0 false false false false false false false false 0 0 0 0 0 0 0 0 0 false false false false false false false false 0 0 (fun xe xf =>
    match (A.bn xe) with
      | true => (k0 false)
      | false => (match (A.cm .neq (A.on 0) (A.on (A.len xd))) with
        | true => (k0 false)
        | false => (l71_5t2_0 (k0 true) x0 x1 x2 x3 x4 x5 x6 x7 x8 x9 xa xb xc xd (A.on 0) 0)))
def F71_2 {β : Type} (A : Pr) (B : Pk) (N : Nat) (x0 x1 x2 x3 x4 x5 x6 x7 x8 x9 xa xb : Int) (xc xd : List R) (k0 : KB β) : Option β :=
  G71_2 A B (F35_1 A B N) (L71_5t2_0 A B N N) x0 x1 x2 x3 x4 x5 x6 x7 x8 x9 xa xb xc xd k0
def P117 : List PT := [(.r (.a [(.i .i64), (.i .i64), (.i .i64), (.i .i64), (.i .i64), (.i .i64), .sn, .sn])), (.r (.a [(.i .i64), (.i .i64), (.i .i64), (.i .i64), (.i .i64), (.i .i64), (.ro 4), (.ro 5)]))]
def M71_2 {β : Type} (f71_2 : Int → Int → Int → Int → Int → Int → Int → Int → Int → Int → Int → Int → List R → List R → (KB β) → Option β) (a : List T) : Option ((T → List (List T) → Option β) → Option β) :=
  match gTs P117 a [] with
  | some [.i x0, .i x1, .i x2, .i x3, .i x4, .i x5, .i x6, .i x7, .i x8, .i x9, .i xa, .i xb, .l xc, .l xd] => some fun kk => f71_2 x0 x1 x2 x3 x4 x5 x6 x7 x8 x9 xa xb xc xd (fun xe => kk (tB xe) [])
  | _ => none
theorem e71_2 {β : Type} (A : Pr) (B : Pk) (f35_1 : Int → Int → Int → Int → Int → Int → Int → Int → Int → Int → Int → Int → List R → Int → Int → Int → Int → Int → Int → Int → Bool → Bool → Bool → Bool → Bool → Bool → Bool → Bool → Int → Int → Int → Int → Int → Int → Int → Int → Int → Bool → Bool → Bool → Bool → Bool → Bool → Bool → Bool → Int → Int → (Bool → Bool → Option β) → Option β) (l71_5t2_0 : (Option β) → Q46 β) (x0 x1 x2 x3 x4 x5 x6 x7 x8 x9 xa xb : Int) (xc xd : List R) (kk : T → List (List T) → Option β) :
    uTs P117 [.i x0, .i x1, .i x2, .i x3, .i x4, .i x5, .i x6, .i x7, .i x8, .i x9, .i xa, .i xb, .l xc, .l xd] (fun a _ => bodyK (mkK Try.prog A B [(35, M35_1 f35_1)] [(5, M71_5t2 l71_5t2_0)] (Hn 71).pt []) Try.f71 a kk) = G71_2 A B f35_1 l71_5t2_0 x0 x1 x2 x3 x4 x5 x6 x7 x8 x9 xa xb xc xd (fun xe => kk (tB xe) []) := by kernel_rfl
theorem o71_2 {β : Type} (N : Nat) : Snd (β := β) Try.prog Hn 71 (M71_2 (F71_2 re rk N)) := by
  intro a h kk r ha hr
  unfold M71_2 at ha
  split at ha
  · rename_i hs
    cases ha
    have hk := via_pat hs ((e71_2 re rk (F35_1 re rk N) (L71_5t2_0 re rk N N) _ _ _ _ _ _ _ _ _ _ _ _ _ _ kk).trans hr)
    exact fn_ok (f := 71) (fn := Try.f71) (H := Hn) (by kernel_rfl) (show SndAll Try.prog Hn [(35, M35_1 (F35_1 re rk N))] from ⟨o35_1 N, trivial⟩) (spots := [.lp X71_5]) (by kernel_rfl) ⟨cut_lp (id := 5) i71_5 (ol71_5t2 N N) (fun s kk => by kernel_rfl), trivial⟩ hk
  · cases ha
def G38_2 {β : Type} (A : Pr) (B : Pk) (f71_2 : Int → Int → Int → Int → Int → Int → Int → Int → Int → Int → Int → Int → List R → List R → (KB β) → Option β) (x0 x1 x2 x3 x4 x5 x6 x7 x8 x9 xa xb xc : Int) (xd xe : List R) (xf : Int) (k0 : KB β) : Option β :=
    match (A.cm .eql x6 xf) with
    | true => (f71_2 x0 x1 x2 x3 x4 x5 x7 x8 x9 xa xb xc xd xe (fun xg =>
      k0 xg))
    | false => (k0 false)
def F38_2 {β : Type} (A : Pr) (B : Pk) (N : Nat) (x0 x1 x2 x3 x4 x5 x6 x7 x8 x9 xa xb xc : Int) (xd xe : List R) (xf : Int) (k0 : KB β) : Option β :=
  G38_2 A B (F71_2 A B N) x0 x1 x2 x3 x4 x5 x6 x7 x8 x9 xa xb xc xd xe xf k0
def P118 : List PT := [(.r (.a [(.i .i64), (.i .i64), (.i .i64), (.i .i64), (.i .i64), (.i .i64), .sn, .sn])), pI, (.r (.a [(.i .i64), (.i .i64), (.i .i64), (.i .i64), (.i .i64), (.i .i64), (.ro 4), (.ro 5)])), pI]
def M38_2 {β : Type} (f38_2 : Int → Int → Int → Int → Int → Int → Int → Int → Int → Int → Int → Int → Int → List R → List R → Int → (KB β) → Option β) (a : List T) : Option ((T → List (List T) → Option β) → Option β) :=
  match gTs P118 a [] with
  | some [.i x0, .i x1, .i x2, .i x3, .i x4, .i x5, .i x6, .i x7, .i x8, .i x9, .i xa, .i xb, .i xc, .l xd, .l xe, .i xf] => some fun kk => f38_2 x0 x1 x2 x3 x4 x5 x6 x7 x8 x9 xa xb xc xd xe xf (fun xg => kk (tB xg) [])
  | _ => none
theorem e38_2 {β : Type} (A : Pr) (B : Pk) (f71_2 : Int → Int → Int → Int → Int → Int → Int → Int → Int → Int → Int → Int → List R → List R → (KB β) → Option β) (x0 x1 x2 x3 x4 x5 x6 x7 x8 x9 xa xb xc : Int) (xd xe : List R) (xf : Int) (kk : T → List (List T) → Option β) :
    uTs P118 [.i x0, .i x1, .i x2, .i x3, .i x4, .i x5, .i x6, .i x7, .i x8, .i x9, .i xa, .i xb, .i xc, .l xd, .l xe, .i xf] (fun a _ => bodyK (mkK Try.prog A B [(71, M71_2 f71_2)] [] (Hn 38).pt []) Try.f38 a kk) = G38_2 A B f71_2 x0 x1 x2 x3 x4 x5 x6 x7 x8 x9 xa xb xc xd xe xf (fun xg => kk (tB xg) []) := by kernel_rfl
theorem o38_2 {β : Type} (N : Nat) : Snd (β := β) Try.prog Hn 38 (M38_2 (F38_2 re rk N)) := by
  intro a h kk r ha hr
  unfold M38_2 at ha
  split at ha
  · rename_i hs
    cases ha
    have hk := via_pat hs ((e38_2 re rk (F71_2 re rk N) _ _ _ _ _ _ _ _ _ _ _ _ _ _ _ _ kk).trans hr)
    exact fn_ok (f := 38) (fn := Try.f38) (H := Hn) (by kernel_rfl) (show SndAll Try.prog Hn [(71, M71_2 (F71_2 re rk N))] from ⟨o71_2 N, trivial⟩) (spots := []) (by kernel_rfl) trivial hk
  · cases ha
def GL67_4t2_0 {β : Type} (A : Pr) (B : Pk) (l67_4t2_0 : (Option β) → Q47 β) (k0 : Option β) (x0 x1 x2 x3 x4 x5 : Int) (x6 : List R) (x7 x8 x9 xa xb xc xd : Int) : Option β :=
    match (A.cm .lss xd (A.on (A.len x6))) with
    | true => (match (A.ix xd (A.len x6)) with
      | some xe => (match (B.okE [(Sh.i .i64), Sh.b, (Sh.i .i64), (Sh.i .i64)] true x6 xe) with
        | true => none
        | false => none)
      | none => none)
    | false => k0
def L67_4t2_0 {β : Type} (A : Pr) (B : Pk) (N : Nat) : Nat → (Option β) → Q47 β
  | 0, _, _, _, _, _, _, _, _, _, _, _, _, _, _, _ => none
  | n + 1, k0, x0, x1, x2, x3, x4, x5, x6, x7, x8, x9, xa, xb, xc, xd =>
    GL67_4t2_0 A B (L67_4t2_0 A B N n) k0 x0 x1 x2 x3 x4 x5 x6 x7 x8 x9 xa xb xc xd
def P119 : List PT := [.us 2, (.bx [pI, pI, pI, pI, pI, pI, (.r (.ro 4))]), (.bx [pI, pI, pI, pI, pI, pI, (.r .sn)]), .us 1, pI, .us 46]
noncomputable def M67_4t2 {β : Type} (l67_4t2_0 : (Option β) → Q47 β) (s : List T) : Option ((Ex → List T → Option β) → Option β) :=
  match gTs P119 (clean ((Hn 67).lp 4).1 s) [] with
  | some [.i x0, .i x1, .i x2, .i x3, .i x4, .i x5, .l x6, .i x7, .i x8, .i x9, .i xa, .i xb, .i xc, .i xd] => some fun kk => l67_4t2_0 (kk (Ex.ex 0) (S97)) x0 x1 x2 x3 x4 x5 x6 x7 x8 x9 xa xb xc xd
  | _ => none
theorem e67_4t2_0 {β : Type} (A : Pr) (B : Pk) (l67_4t2_0 : (Option β) → Q47 β) (x0 x1 x2 x3 x4 x5 : Int) (x6 : List R) (x7 x8 x9 xa xb xc xd : Int) (kk : Ex → List T → Option β) :
    uTs P119 [.i x0, .i x1, .i x2, .i x3, .i x4, .i x5, .l x6, .i x7, .i x8, .i x9, .i xa, .i xb, .i xc, .i xd] (fun s _ => evK (mkK Try.prog A B [] [] (Hn 67).pt []) X67_4 s (fun e s' => match e with
      | .nm => (match M67_4t2 l67_4t2_0 s' with | some h => h kk | none => none)
      | .ex m => kk (.ex m) (clean ((Hn 67).lp (firstReg X67_4)).2 s')
      | .rt => kk .rt (clean ((Hn 67).lp (firstReg X67_4)).2 s'))) = GL67_4t2_0 A B l67_4t2_0 (kk (Ex.ex 0) (S97)) x0 x1 x2 x3 x4 x5 x6 x7 x8 x9 xa xb xc xd := by kernel_rfl
theorem ol67_4t2 {β : Type} (N : Nat) : ∀ n, SndL (β := β) Try.prog Hn (Hn 67) X67_4 (M67_4t2 (L67_4t2_0 re rk N n))
  | 0 => by
    intro s h kk r ha hr
    unfold M67_4t2 at ha
    split at ha
    · cases ha; cases hr
    · cases ha
  | n + 1 => by
    have ih := ol67_4t2 (β := β) N n
    intro s h kk r ha hr
    unfold M67_4t2 at ha
    split at ha
    · rename_i hs
      cases ha
      have hk := via_pat hs ((e67_4t2_0 re rk (L67_4t2_0 re rk N n) _ _ _ _ _ _ _ _ _ _ _ _ _ _ kk).trans hr)
      exact round_ok (show SndAll Try.prog Hn [] from trivial) (spots := []) (by kernel_rfl) trivial ih (hd := clean ((Hn 67).lp 4).1 s) (by rw [i67_4]) hk
    · cases ha
def G67_2 {β : Type} (A : Pr) (B : Pk) (l67_4t2_0 : (Option β) → Q47 β) (x0 x1 x2 x3 x4 x5 : Int) (x6 : List R) (x7 x8 x9 xa xb xc : Int) (k0 : KB β) : Option β :=
    match (A.bn (A.ba (A.cm .eql x0 x7) (A.ba (A.cm .eql x1 x8) (A.ba (A.cm .eql x2 x9) (A.ba (A.cm .eql x3 xa) true))))) with
    | true => (k0 false)
    | false => (match (A.cm .neq x4 xb) with
      | true => (k0 false)
      | false => (match (A.cm .neq x5 xc) with
        | true => (k0 false)
        | false => (match (A.cm .neq (A.on (A.len x6)) (A.on 0)) with
          | true => (k0 false)
          | false => (l67_4t2_0 (k0 true) x0 x1 x2 x3 x4 x5 x6 x7 x8 x9 xa xb xc 0))))
def F67_2 {β : Type} (A : Pr) (B : Pk) (N : Nat) (x0 x1 x2 x3 x4 x5 : Int) (x6 : List R) (x7 x8 x9 xa xb xc : Int) (k0 : KB β) : Option β :=
  G67_2 A B (L67_4t2_0 A B N N) x0 x1 x2 x3 x4 x5 x6 x7 x8 x9 xa xb xc k0
def P120 : List PT := [(.r (.a [(.i .i64), (.i .i64), (.i .i64), (.i .i64), (.i .i64), (.i .i64), (.ro 4)])), (.r (.a [(.i .i64), (.i .i64), (.i .i64), (.i .i64), (.i .i64), (.i .i64), .sn]))]
def M67_2 {β : Type} (f67_2 : Int → Int → Int → Int → Int → Int → List R → Int → Int → Int → Int → Int → Int → (KB β) → Option β) (a : List T) : Option ((T → List (List T) → Option β) → Option β) :=
  match gTs P120 a [] with
  | some [.i x0, .i x1, .i x2, .i x3, .i x4, .i x5, .l x6, .i x7, .i x8, .i x9, .i xa, .i xb, .i xc] => some fun kk => f67_2 x0 x1 x2 x3 x4 x5 x6 x7 x8 x9 xa xb xc (fun xd => kk (tB xd) [])
  | _ => none
theorem e67_2 {β : Type} (A : Pr) (B : Pk) (l67_4t2_0 : (Option β) → Q47 β) (x0 x1 x2 x3 x4 x5 : Int) (x6 : List R) (x7 x8 x9 xa xb xc : Int) (kk : T → List (List T) → Option β) :
    uTs P120 [.i x0, .i x1, .i x2, .i x3, .i x4, .i x5, .l x6, .i x7, .i x8, .i x9, .i xa, .i xb, .i xc] (fun a _ => bodyK (mkK Try.prog A B [] [(4, M67_4t2 l67_4t2_0)] (Hn 67).pt []) Try.f67 a kk) = G67_2 A B l67_4t2_0 x0 x1 x2 x3 x4 x5 x6 x7 x8 x9 xa xb xc (fun xd => kk (tB xd) []) := by kernel_rfl
theorem o67_2 {β : Type} (N : Nat) : Snd (β := β) Try.prog Hn 67 (M67_2 (F67_2 re rk N)) := by
  intro a h kk r ha hr
  unfold M67_2 at ha
  split at ha
  · rename_i hs
    cases ha
    have hk := via_pat hs ((e67_2 re rk (L67_4t2_0 re rk N N) _ _ _ _ _ _ _ _ _ _ _ _ _ kk).trans hr)
    exact fn_ok (f := 67) (fn := Try.f67) (H := Hn) (by kernel_rfl) (show SndAll Try.prog Hn [] from trivial) (spots := [.lp X67_4]) (by kernel_rfl) ⟨cut_lp (id := 4) i67_4 (ol67_4t2 N N) (fun s kk => by kernel_rfl), trivial⟩ hk
  · cases ha
def G35_2 {β : Type} (A : Pr) (B : Pk) (f67_2 : Int → Int → Int → Int → Int → Int → List R → Int → Int → Int → Int → Int → Int → (KB β) → Option β) (f68_0 : Int → Int → Int → Int → Int → Int → Int → Bool → Bool → Bool → Bool → Bool → Bool → Bool → Bool → Int → Int → Int → Int → Int → Int → Int → Int → Int → Bool → Bool → Bool → Bool → Bool → Bool → Bool → Bool → Int → Int → (KB β) → Option β) (x0 x1 x2 x3 x4 x5 : Int) (x6 : List R) (x7 x8 x9 xa xb xc xd xe xf xg xh xi xj : Int) (xk xl xm xn xo xp xq xr : Bool) (xs xt xu xv xw xx xy xz x10 : Int) (x11 x12 x13 x14 x15 x16 x17 x18 : Bool) (x19 x1a : Int) (k0 : Bool → Bool → Option β) : Option β :=
    f67_2 x0 x1 x2 x3 x4 x5 x6 x7 x8 x9 xa xb xc (fun x1b =>
    f68_0 xd xe xf xg xh xi xj xk xl xm xn xo xp xq xr xs xt xu xv xw xx xy xz x10 x11 x12 x13 x14 x15 x16 x17 x18 x19 x1a (fun x1c =>
      k0 x1b x1c))
def F35_2 {β : Type} (A : Pr) (B : Pk) (N : Nat) (x0 x1 x2 x3 x4 x5 : Int) (x6 : List R) (x7 x8 x9 xa xb xc xd xe xf xg xh xi xj : Int) (xk xl xm xn xo xp xq xr : Bool) (xs xt xu xv xw xx xy xz x10 : Int) (x11 x12 x13 x14 x15 x16 x17 x18 : Bool) (x19 x1a : Int) (k0 : Bool → Bool → Option β) : Option β :=
  G35_2 A B (F67_2 A B N) (F68_0 A B N) x0 x1 x2 x3 x4 x5 x6 x7 x8 x9 xa xb xc xd xe xf xg xh xi xj xk xl xm xn xo xp xq xr xs xt xu xv xw xx xy xz x10 x11 x12 x13 x14 x15 x16 x17 x18 x19 x1a k0
def P121 : List PT := [(.r (.a [(.i .i64), (.i .i64), (.i .i64), (.i .i64), (.i .i64), (.i .i64), (.ro 4)])), (.r (.a [(.i .i64), (.i .i64), (.i .i64), (.i .i64), (.i .i64), (.i .i64), .sn])), (.r (.a [(.i .i64), (.i .i64), (.i .i64), (.i .i64), (.i .i64), .sn, (.i .i64), (.i .i64), .b, .b, .b, .b, .b, .b, .b, .b, .sn, (.i .i64), (.i .i64)])), (.r (.a [(.i .i64), (.i .i64), (.i .i64), (.i .i64), (.i .i64), .sn, (.i .i64), (.i .i64), .b, .b, .b, .b, .b, .b, .b, .b, .sn, (.i .i64), (.i .i64)]))]
def M35_2 {β : Type} (f35_2 : Int → Int → Int → Int → Int → Int → List R → Int → Int → Int → Int → Int → Int → Int → Int → Int → Int → Int → Int → Int → Bool → Bool → Bool → Bool → Bool → Bool → Bool → Bool → Int → Int → Int → Int → Int → Int → Int → Int → Int → Bool → Bool → Bool → Bool → Bool → Bool → Bool → Bool → Int → Int → (Bool → Bool → Option β) → Option β) (a : List T) : Option ((T → List (List T) → Option β) → Option β) :=
  match gTs P121 a [] with
  | some (.i x0 :: .i x1 :: .i x2 :: .i x3 :: .i x4 :: .i x5 :: .l x6 :: .i x7 :: .i x8 :: .i x9 :: .i xa :: .i xb :: .i xc :: .i xd :: .i xe :: .i xf :: .i xg :: .i xh :: .i xi :: .i xj :: .b xk :: .b xl :: .b xm :: .b xn :: .b xo :: .b xp :: .b xq :: .b xr :: .i xs :: .i xt :: .i xu :: .i xv :: .i xw :: .i xx :: .i xy :: .i xz :: .i x10 :: .b x11 :: .b x12 :: .b x13 :: .b x14 :: .b x15 :: .b x16 :: .b x17 :: .b x18 :: .i x19 :: .i x1a :: []) => some fun kk => f35_2 x0 x1 x2 x3 x4 x5 x6 x7 x8 x9 xa xb xc xd xe xf xg xh xi xj xk xl xm xn xo xp xq xr xs xt xu xv xw xx xy xz x10 x11 x12 x13 x14 x15 x16 x17 x18 x19 x1a (fun x1b x1c => kk (T.tp true [(tB x1b), (tB x1c)]) [])
  | _ => none
theorem e35_2 {β : Type} (A : Pr) (B : Pk) (f67_2 : Int → Int → Int → Int → Int → Int → List R → Int → Int → Int → Int → Int → Int → (KB β) → Option β) (f68_0 : Int → Int → Int → Int → Int → Int → Int → Bool → Bool → Bool → Bool → Bool → Bool → Bool → Bool → Int → Int → Int → Int → Int → Int → Int → Int → Int → Bool → Bool → Bool → Bool → Bool → Bool → Bool → Bool → Int → Int → (KB β) → Option β) (x0 x1 x2 x3 x4 x5 : Int) (x6 : List R) (x7 x8 x9 xa xb xc xd xe xf xg xh xi xj : Int) (xk xl xm xn xo xp xq xr : Bool) (xs xt xu xv xw xx xy xz x10 : Int) (x11 x12 x13 x14 x15 x16 x17 x18 : Bool) (x19 x1a : Int) (kk : T → List (List T) → Option β) :
    uTs P121 (.i x0 :: .i x1 :: .i x2 :: .i x3 :: .i x4 :: .i x5 :: .l x6 :: .i x7 :: .i x8 :: .i x9 :: .i xa :: .i xb :: .i xc :: .i xd :: .i xe :: .i xf :: .i xg :: .i xh :: .i xi :: .i xj :: .b xk :: .b xl :: .b xm :: .b xn :: .b xo :: .b xp :: .b xq :: .b xr :: .i xs :: .i xt :: .i xu :: .i xv :: .i xw :: .i xx :: .i xy :: .i xz :: .i x10 :: .b x11 :: .b x12 :: .b x13 :: .b x14 :: .b x15 :: .b x16 :: .b x17 :: .b x18 :: .i x19 :: .i x1a :: []) (fun a _ => bodyK (mkK Try.prog A B [(67, M67_2 f67_2), (68, M68_0 f68_0)] [] (Hn 35).pt []) Try.f35 a kk) = G35_2 A B f67_2 f68_0 x0 x1 x2 x3 x4 x5 x6 x7 x8 x9 xa xb xc xd xe xf xg xh xi xj xk xl xm xn xo xp xq xr xs xt xu xv xw xx xy xz x10 x11 x12 x13 x14 x15 x16 x17 x18 x19 x1a (fun x1b x1c => kk (T.tp true [(tB x1b), (tB x1c)]) []) := by kernel_rfl
theorem o35_2 {β : Type} (N : Nat) : Snd (β := β) Try.prog Hn 35 (M35_2 (F35_2 re rk N)) := by
  intro a h kk r ha hr
  unfold M35_2 at ha
  split at ha
  · rename_i hs
    cases ha
    have hk := via_pat hs ((e35_2 re rk (F67_2 re rk N) (F68_0 re rk N) _ _ _ _ _ _ _ _ _ _ _ _ _ _ _ _ _ _ _ _ _ _ _ _ _ _ _ _ _ _ _ _ _ _ _ _ _ _ _ _ _ _ _ _ _ _ _ kk).trans hr)
    exact fn_ok (f := 35) (fn := Try.f35) (H := Hn) (by kernel_rfl) (show SndAll Try.prog Hn [(67, M67_2 (F67_2 re rk N)), (68, M68_0 (F68_0 re rk N))] from ⟨o67_2 N, o68_0 N, trivial⟩) (spots := []) (by kernel_rfl) trivial hk
  · cases ha
def GL71_5t3_0 {β : Type} (A : Pr) (B : Pk) (l71_5t3_0 : (Option β) → Q48 β) (k0 : Option β) (x0 x1 x2 x3 x4 x5 : Int) (x6 : List R) (x7 x8 x9 xa xb xc xd xe : Int) : Option β :=
    match (A.cm .lss xe xd) with
    | true => none
    | false => k0
def L71_5t3_0 {β : Type} (A : Pr) (B : Pk) (N : Nat) : Nat → (Option β) → Q48 β
  | 0, _, _, _, _, _, _, _, _, _, _, _, _, _, _, _, _ => none
  | n + 1, k0, x0, x1, x2, x3, x4, x5, x6, x7, x8, x9, xa, xb, xc, xd, xe =>
    GL71_5t3_0 A B (L71_5t3_0 A B N n) k0 x0 x1 x2 x3 x4 x5 x6 x7 x8 x9 xa xb xc xd xe
def P122 : List PT := [.us 2, (.bx [pI, pI, pI, pI, pI, pI, (.r (.ro 4)), (.r .sn)]), (.bx [pI, pI, pI, pI, pI, pI, (.r .sn), (.r .sn)]), .us 27, pI, pI, .us 15]
noncomputable def M71_5t3 {β : Type} (l71_5t3_0 : (Option β) → Q48 β) (s : List T) : Option ((Ex → List T → Option β) → Option β) :=
  match gTs P122 (clean ((Hn 71).lp 5).1 s) [] with
  | some [.i x0, .i x1, .i x2, .i x3, .i x4, .i x5, .l x6, .i x7, .i x8, .i x9, .i xa, .i xb, .i xc, .i xd, .i xe] => some fun kk => l71_5t3_0 (kk (Ex.ex 0) (S106)) x0 x1 x2 x3 x4 x5 x6 x7 x8 x9 xa xb xc xd xe
  | _ => none
theorem e71_5t3_0 {β : Type} (A : Pr) (B : Pk) (l71_5t3_0 : (Option β) → Q48 β) (x0 x1 x2 x3 x4 x5 : Int) (x6 : List R) (x7 x8 x9 xa xb xc xd xe : Int) (kk : Ex → List T → Option β) :
    uTs P122 [.i x0, .i x1, .i x2, .i x3, .i x4, .i x5, .l x6, .i x7, .i x8, .i x9, .i xa, .i xb, .i xc, .i xd, .i xe] (fun s _ => evK (mkK Try.prog A B [] [] (Hn 71).pt []) X71_5 s (fun e s' => match e with
      | .nm => (match M71_5t3 l71_5t3_0 s' with | some h => h kk | none => none)
      | .ex m => kk (.ex m) (clean ((Hn 71).lp (firstReg X71_5)).2 s')
      | .rt => kk .rt (clean ((Hn 71).lp (firstReg X71_5)).2 s'))) = GL71_5t3_0 A B l71_5t3_0 (kk (Ex.ex 0) (S106)) x0 x1 x2 x3 x4 x5 x6 x7 x8 x9 xa xb xc xd xe := by kernel_rfl
theorem ol71_5t3 {β : Type} (N : Nat) : ∀ n, SndL (β := β) Try.prog Hn (Hn 71) X71_5 (M71_5t3 (L71_5t3_0 re rk N n))
  | 0 => by
    intro s h kk r ha hr
    unfold M71_5t3 at ha
    split at ha
    · cases ha; cases hr
    · cases ha
  | n + 1 => by
    have ih := ol71_5t3 (β := β) N n
    intro s h kk r ha hr
    unfold M71_5t3 at ha
    split at ha
    · rename_i hs
      cases ha
      have hk := via_pat hs ((e71_5t3_0 re rk (L71_5t3_0 re rk N n) _ _ _ _ _ _ _ _ _ _ _ _ _ _ _ kk).trans hr)
      exact round_ok (show SndAll Try.prog Hn [] from trivial) (spots := []) (by kernel_rfl) trivial ih (hd := clean ((Hn 71).lp 5).1 s) (by rw [i71_5]) hk
    · cases ha
def G71_3 {β : Type} (A : Pr) (B : Pk) (f35_2 : Int → Int → Int → Int → Int → Int → List R → Int → Int → Int → Int → Int → Int → Int → Int → Int → Int → Int → Int → Int → Bool → Bool → Bool → Bool → Bool → Bool → Bool → Bool → Int → Int → Int → Int → Int → Int → Int → Int → Int → Bool → Bool → Bool → Bool → Bool → Bool → Bool → Bool → Int → Int → (Bool → Bool → Option β) → Option β) (l71_5t3_0 : (Option β) → Q48 β) (x0 x1 x2 x3 x4 x5 : Int) (x6 : List R) (x7 x8 x9 xa xb xc : Int) (k0 : KB β) : Option β :=
    f35_2 x0 x1 x2 x3 x4 x5 x6 x7 x8 x9 xa xb xc 0 0 0 0 0 0 0 false false false false false false false false 0 0 0 0 0 0 0 0 0 false false false false false false false false 0 0 (fun xd xe =>
    match (A.bn xd) with
      | true => (k0 false)
      | false => (match (A.cm .neq (A.on 0) (A.on 0)) with
        | true => (k0 false)
        | false => (l71_5t3_0 (k0 true) x0 x1 x2 x3 x4 x5 x6 x7 x8 x9 xa xb xc (A.on 0) 0)))
def F71_3 {β : Type} (A : Pr) (B : Pk) (N : Nat) (x0 x1 x2 x3 x4 x5 : Int) (x6 : List R) (x7 x8 x9 xa xb xc : Int) (k0 : KB β) : Option β :=
  G71_3 A B (F35_2 A B N) (L71_5t3_0 A B N N) x0 x1 x2 x3 x4 x5 x6 x7 x8 x9 xa xb xc k0
def P123 : List PT := [(.r (.a [(.i .i64), (.i .i64), (.i .i64), (.i .i64), (.i .i64), (.i .i64), (.ro 4), .sn])), (.r (.a [(.i .i64), (.i .i64), (.i .i64), (.i .i64), (.i .i64), (.i .i64), .sn, .sn]))]
def M71_3 {β : Type} (f71_3 : Int → Int → Int → Int → Int → Int → List R → Int → Int → Int → Int → Int → Int → (KB β) → Option β) (a : List T) : Option ((T → List (List T) → Option β) → Option β) :=
  match gTs P123 a [] with
  | some [.i x0, .i x1, .i x2, .i x3, .i x4, .i x5, .l x6, .i x7, .i x8, .i x9, .i xa, .i xb, .i xc] => some fun kk => f71_3 x0 x1 x2 x3 x4 x5 x6 x7 x8 x9 xa xb xc (fun xd => kk (tB xd) [])
  | _ => none
theorem e71_3 {β : Type} (A : Pr) (B : Pk) (f35_2 : Int → Int → Int → Int → Int → Int → List R → Int → Int → Int → Int → Int → Int → Int → Int → Int → Int → Int → Int → Int → Bool → Bool → Bool → Bool → Bool → Bool → Bool → Bool → Int → Int → Int → Int → Int → Int → Int → Int → Int → Bool → Bool → Bool → Bool → Bool → Bool → Bool → Bool → Int → Int → (Bool → Bool → Option β) → Option β) (l71_5t3_0 : (Option β) → Q48 β) (x0 x1 x2 x3 x4 x5 : Int) (x6 : List R) (x7 x8 x9 xa xb xc : Int) (kk : T → List (List T) → Option β) :
    uTs P123 [.i x0, .i x1, .i x2, .i x3, .i x4, .i x5, .l x6, .i x7, .i x8, .i x9, .i xa, .i xb, .i xc] (fun a _ => bodyK (mkK Try.prog A B [(35, M35_2 f35_2)] [(5, M71_5t3 l71_5t3_0)] (Hn 71).pt []) Try.f71 a kk) = G71_3 A B f35_2 l71_5t3_0 x0 x1 x2 x3 x4 x5 x6 x7 x8 x9 xa xb xc (fun xd => kk (tB xd) []) := by kernel_rfl
theorem o71_3 {β : Type} (N : Nat) : Snd (β := β) Try.prog Hn 71 (M71_3 (F71_3 re rk N)) := by
  intro a h kk r ha hr
  unfold M71_3 at ha
  split at ha
  · rename_i hs
    cases ha
    have hk := via_pat hs ((e71_3 re rk (F35_2 re rk N) (L71_5t3_0 re rk N N) _ _ _ _ _ _ _ _ _ _ _ _ _ kk).trans hr)
    exact fn_ok (f := 71) (fn := Try.f71) (H := Hn) (by kernel_rfl) (show SndAll Try.prog Hn [(35, M35_2 (F35_2 re rk N))] from ⟨o35_2 N, trivial⟩) (spots := [.lp X71_5]) (by kernel_rfl) ⟨cut_lp (id := 5) i71_5 (ol71_5t3 N N) (fun s kk => by kernel_rfl), trivial⟩ hk
  · cases ha
def G38_3 {β : Type} (A : Pr) (B : Pk) (f71_3 : Int → Int → Int → Int → Int → Int → List R → Int → Int → Int → Int → Int → Int → (KB β) → Option β) (x0 x1 x2 x3 x4 x5 : Int) (x6 : List R) (x7 x8 x9 xa xb xc xd xe : Int) (k0 : KB β) : Option β :=
    match (A.cm .eql x7 xe) with
    | true => (f71_3 x0 x1 x2 x3 x4 x5 x6 x8 x9 xa xb xc xd (fun xf =>
      k0 xf))
    | false => (k0 false)
def F38_3 {β : Type} (A : Pr) (B : Pk) (N : Nat) (x0 x1 x2 x3 x4 x5 : Int) (x6 : List R) (x7 x8 x9 xa xb xc xd xe : Int) (k0 : KB β) : Option β :=
  G38_3 A B (F71_3 A B N) x0 x1 x2 x3 x4 x5 x6 x7 x8 x9 xa xb xc xd xe k0
def P124 : List PT := [(.r (.a [(.i .i64), (.i .i64), (.i .i64), (.i .i64), (.i .i64), (.i .i64), (.ro 4), .sn])), pI, (.r (.a [(.i .i64), (.i .i64), (.i .i64), (.i .i64), (.i .i64), (.i .i64), .sn, .sn])), pI]
def M38_3 {β : Type} (f38_3 : Int → Int → Int → Int → Int → Int → List R → Int → Int → Int → Int → Int → Int → Int → Int → (KB β) → Option β) (a : List T) : Option ((T → List (List T) → Option β) → Option β) :=
  match gTs P124 a [] with
  | some [.i x0, .i x1, .i x2, .i x3, .i x4, .i x5, .l x6, .i x7, .i x8, .i x9, .i xa, .i xb, .i xc, .i xd, .i xe] => some fun kk => f38_3 x0 x1 x2 x3 x4 x5 x6 x7 x8 x9 xa xb xc xd xe (fun xf => kk (tB xf) [])
  | _ => none
theorem e38_3 {β : Type} (A : Pr) (B : Pk) (f71_3 : Int → Int → Int → Int → Int → Int → List R → Int → Int → Int → Int → Int → Int → (KB β) → Option β) (x0 x1 x2 x3 x4 x5 : Int) (x6 : List R) (x7 x8 x9 xa xb xc xd xe : Int) (kk : T → List (List T) → Option β) :
    uTs P124 [.i x0, .i x1, .i x2, .i x3, .i x4, .i x5, .l x6, .i x7, .i x8, .i x9, .i xa, .i xb, .i xc, .i xd, .i xe] (fun a _ => bodyK (mkK Try.prog A B [(71, M71_3 f71_3)] [] (Hn 38).pt []) Try.f38 a kk) = G38_3 A B f71_3 x0 x1 x2 x3 x4 x5 x6 x7 x8 x9 xa xb xc xd xe (fun xf => kk (tB xf) []) := by kernel_rfl
theorem o38_3 {β : Type} (N : Nat) : Snd (β := β) Try.prog Hn 38 (M38_3 (F38_3 re rk N)) := by
  intro a h kk r ha hr
  unfold M38_3 at ha
  split at ha
  · rename_i hs
    cases ha
    have hk := via_pat hs ((e38_3 re rk (F71_3 re rk N) _ _ _ _ _ _ _ _ _ _ _ _ _ _ _ kk).trans hr)
    exact fn_ok (f := 38) (fn := Try.f38) (H := Hn) (by kernel_rfl) (show SndAll Try.prog Hn [(71, M71_3 (F71_3 re rk N))] from ⟨o71_3 N, trivial⟩) (spots := []) (by kernel_rfl) trivial hk
  · cases ha
def GL67_4t3_0 {β : Type} (A : Pr) (B : Pk) (l67_4t3_0 : (KB β) → (Option β) → Q49 β) (k0 : KB β) (k1 : Option β) (x0 x1 x2 x3 x4 x5 : Int) (x6 : List R) (x7 x8 x9 xa xb xc : Int) (xd : List R) (xe : Int) : Option β :=
    match (A.cm .lss xe (A.on (A.len x6))) with
    | true => (match (A.ix xe (A.len x6)) with
      | some xf => (match (B.okE [(Sh.i .i64), Sh.b, (Sh.i .i64), (Sh.i .i64)] true x6 xf) with
        | true => (match (A.ix xe (A.len xd)) with
          | some xg => (match (B.okE [(Sh.i .i64), Sh.b, (Sh.i .i64), (Sh.i .i64)] true xd xg) with
            | true => (match (A.bn (A.ba (A.cm .eql (B.ci x6 xf 0) (B.ci xd xg 0)) (A.ba (A.be (B.cb x6 xf 1) (B.cb xd xg 1)) (A.ba (A.cm .eql (B.ci x6 xf 2) (B.ci xd xg 2)) (A.ba (A.cm .eql (B.ci x6 xf 3) (B.ci xd xg 3)) true))))) with
              | true => (k0 false)
              | false => (l67_4t3_0 k0 k1 x0 x1 x2 x3 x4 x5 x6 x7 x8 x9 xa xb xc xd (A.ar .add .i64 xe 1)))
            | false => none)
          | none => none)
        | false => none)
      | none => none)
    | false => k1
def L67_4t3_0 {β : Type} (A : Pr) (B : Pk) (N : Nat) : Nat → (KB β) → (Option β) → Q49 β
  | 0, _, _, _, _, _, _, _, _, _, _, _, _, _, _, _, _, _ => none
  | n + 1, k0, k1, x0, x1, x2, x3, x4, x5, x6, x7, x8, x9, xa, xb, xc, xd, xe =>
    GL67_4t3_0 A B (L67_4t3_0 A B N n) k0 k1 x0 x1 x2 x3 x4 x5 x6 x7 x8 x9 xa xb xc xd xe
def P125 : List PT := [.us 4, pB, .us 47]
def S125 (x0 : Bool) : List T := (T.u :: T.u :: T.u :: T.u :: (tB x0) :: T.u :: T.u :: T.u :: T.u :: T.u :: T.u :: T.u :: T.u :: T.u :: T.u :: T.u :: T.u :: T.u :: T.u :: T.u :: T.u :: T.u :: T.u :: T.u :: T.u :: T.u :: T.u :: T.u :: T.u :: T.u :: T.u :: T.u :: T.u :: T.u :: T.u :: T.u :: T.u :: T.u :: T.u :: T.u :: T.u :: T.u :: T.u :: T.u :: T.u :: T.u :: T.u :: T.u :: T.u :: T.u :: T.u :: T.u :: [])
def P126 : List PT := [.us 2, (.bx [pI, pI, pI, pI, pI, pI, (.r (.ro 4))]), (.bx [pI, pI, pI, pI, pI, pI, (.r (.ro 4))]), .us 1, pI, .us 46]
noncomputable def M67_4t3 {β : Type} (l67_4t3_0 : (KB β) → (Option β) → Q49 β) (s : List T) : Option ((Ex → List T → Option β) → Option β) :=
  match gTs P126 (clean ((Hn 67).lp 4).1 s) [] with
  | some [.i x0, .i x1, .i x2, .i x3, .i x4, .i x5, .l x6, .i x7, .i x8, .i x9, .i xa, .i xb, .i xc, .l xd, .i xe] => some fun kk => l67_4t3_0 (fun xf => kk Ex.rt (S125 xf)) (kk (Ex.ex 0) (S97)) x0 x1 x2 x3 x4 x5 x6 x7 x8 x9 xa xb xc xd xe
  | _ => none
theorem e67_4t3_0 {β : Type} (A : Pr) (B : Pk) (l67_4t3_0 : (KB β) → (Option β) → Q49 β) (x0 x1 x2 x3 x4 x5 : Int) (x6 : List R) (x7 x8 x9 xa xb xc : Int) (xd : List R) (xe : Int) (kk : Ex → List T → Option β) :
    uTs P126 [.i x0, .i x1, .i x2, .i x3, .i x4, .i x5, .l x6, .i x7, .i x8, .i x9, .i xa, .i xb, .i xc, .l xd, .i xe] (fun s _ => evK (mkK Try.prog A B [] [] (Hn 67).pt []) X67_4 s (fun e s' => match e with
      | .nm => (match M67_4t3 l67_4t3_0 s' with | some h => h kk | none => none)
      | .ex m => kk (.ex m) (clean ((Hn 67).lp (firstReg X67_4)).2 s')
      | .rt => kk .rt (clean ((Hn 67).lp (firstReg X67_4)).2 s'))) = GL67_4t3_0 A B l67_4t3_0 (fun xf => kk Ex.rt (S125 xf)) (kk (Ex.ex 0) (S97)) x0 x1 x2 x3 x4 x5 x6 x7 x8 x9 xa xb xc xd xe := by kernel_rfl
theorem ol67_4t3 {β : Type} (N : Nat) : ∀ n, SndL (β := β) Try.prog Hn (Hn 67) X67_4 (M67_4t3 (L67_4t3_0 re rk N n))
  | 0 => by
    intro s h kk r ha hr
    unfold M67_4t3 at ha
    split at ha
    · cases ha; cases hr
    · cases ha
  | n + 1 => by
    have ih := ol67_4t3 (β := β) N n
    intro s h kk r ha hr
    unfold M67_4t3 at ha
    split at ha
    · rename_i hs
      cases ha
      have hk := via_pat hs ((e67_4t3_0 re rk (L67_4t3_0 re rk N n) _ _ _ _ _ _ _ _ _ _ _ _ _ _ _ kk).trans hr)
      exact round_ok (show SndAll Try.prog Hn [] from trivial) (spots := []) (by kernel_rfl) trivial ih (hd := clean ((Hn 67).lp 4).1 s) (by rw [i67_4]) hk
    · cases ha
def G67_3 {β : Type} (A : Pr) (B : Pk) (l67_4t3_0 : (KB β) → (Option β) → Q49 β) (x0 x1 x2 x3 x4 x5 : Int) (x6 : List R) (x7 x8 x9 xa xb xc : Int) (xd : List R) (k0 : KB β) : Option β :=
    match (A.bn (A.ba (A.cm .eql x0 x7) (A.ba (A.cm .eql x1 x8) (A.ba (A.cm .eql x2 x9) (A.ba (A.cm .eql x3 xa) true))))) with
    | true => (k0 false)
    | false => (match (A.cm .neq x4 xb) with
      | true => (k0 false)
      | false => (match (A.cm .neq x5 xc) with
        | true => (k0 false)
        | false => (match (A.cm .neq (A.on (A.len x6)) (A.on (A.len xd))) with
          | true => (k0 false)
          | false => (l67_4t3_0 (fun xe =>
            k0 xe) (k0 true) x0 x1 x2 x3 x4 x5 x6 x7 x8 x9 xa xb xc xd 0))))
def F67_3 {β : Type} (A : Pr) (B : Pk) (N : Nat) (x0 x1 x2 x3 x4 x5 : Int) (x6 : List R) (x7 x8 x9 xa xb xc : Int) (xd : List R) (k0 : KB β) : Option β :=
  G67_3 A B (L67_4t3_0 A B N N) x0 x1 x2 x3 x4 x5 x6 x7 x8 x9 xa xb xc xd k0
def P127 : List PT := [(.r (.a [(.i .i64), (.i .i64), (.i .i64), (.i .i64), (.i .i64), (.i .i64), (.ro 4)])), (.r (.a [(.i .i64), (.i .i64), (.i .i64), (.i .i64), (.i .i64), (.i .i64), (.ro 4)]))]
def M67_3 {β : Type} (f67_3 : Int → Int → Int → Int → Int → Int → List R → Int → Int → Int → Int → Int → Int → List R → (KB β) → Option β) (a : List T) : Option ((T → List (List T) → Option β) → Option β) :=
  match gTs P127 a [] with
  | some [.i x0, .i x1, .i x2, .i x3, .i x4, .i x5, .l x6, .i x7, .i x8, .i x9, .i xa, .i xb, .i xc, .l xd] => some fun kk => f67_3 x0 x1 x2 x3 x4 x5 x6 x7 x8 x9 xa xb xc xd (fun xe => kk (tB xe) [])
  | _ => none
theorem e67_3 {β : Type} (A : Pr) (B : Pk) (l67_4t3_0 : (KB β) → (Option β) → Q49 β) (x0 x1 x2 x3 x4 x5 : Int) (x6 : List R) (x7 x8 x9 xa xb xc : Int) (xd : List R) (kk : T → List (List T) → Option β) :
    uTs P127 [.i x0, .i x1, .i x2, .i x3, .i x4, .i x5, .l x6, .i x7, .i x8, .i x9, .i xa, .i xb, .i xc, .l xd] (fun a _ => bodyK (mkK Try.prog A B [] [(4, M67_4t3 l67_4t3_0)] (Hn 67).pt []) Try.f67 a kk) = G67_3 A B l67_4t3_0 x0 x1 x2 x3 x4 x5 x6 x7 x8 x9 xa xb xc xd (fun xe => kk (tB xe) []) := by kernel_rfl
theorem o67_3 {β : Type} (N : Nat) : Snd (β := β) Try.prog Hn 67 (M67_3 (F67_3 re rk N)) := by
  intro a h kk r ha hr
  unfold M67_3 at ha
  split at ha
  · rename_i hs
    cases ha
    have hk := via_pat hs ((e67_3 re rk (L67_4t3_0 re rk N N) _ _ _ _ _ _ _ _ _ _ _ _ _ _ kk).trans hr)
    exact fn_ok (f := 67) (fn := Try.f67) (H := Hn) (by kernel_rfl) (show SndAll Try.prog Hn [] from trivial) (spots := [.lp X67_4]) (by kernel_rfl) ⟨cut_lp (id := 4) i67_4 (ol67_4t3 N N) (fun s kk => by kernel_rfl), trivial⟩ hk
  · cases ha
def G35_3 {β : Type} (A : Pr) (B : Pk) (f67_3 : Int → Int → Int → Int → Int → Int → List R → Int → Int → Int → Int → Int → Int → List R → (KB β) → Option β) (f68_0 : Int → Int → Int → Int → Int → Int → Int → Bool → Bool → Bool → Bool → Bool → Bool → Bool → Bool → Int → Int → Int → Int → Int → Int → Int → Int → Int → Bool → Bool → Bool → Bool → Bool → Bool → Bool → Bool → Int → Int → (KB β) → Option β) (x0 x1 x2 x3 x4 x5 : Int) (x6 : List R) (x7 x8 x9 xa xb xc : Int) (xd : List R) (xe xf xg xh xi xj xk : Int) (xl xm xn xo xp xq xr xs : Bool) (xt xu xv xw xx xy xz x10 x11 : Int) (x12 x13 x14 x15 x16 x17 x18 x19 : Bool) (x1a x1b : Int) (k0 : Bool → Bool → Option β) : Option β :=
    f67_3 x0 x1 x2 x3 x4 x5 x6 x7 x8 x9 xa xb xc xd (fun x1c =>
    f68_0 xe xf xg xh xi xj xk xl xm xn xo xp xq xr xs xt xu xv xw xx xy xz x10 x11 x12 x13 x14 x15 x16 x17 x18 x19 x1a x1b (fun x1d =>
      k0 x1c x1d))
def F35_3 {β : Type} (A : Pr) (B : Pk) (N : Nat) (x0 x1 x2 x3 x4 x5 : Int) (x6 : List R) (x7 x8 x9 xa xb xc : Int) (xd : List R) (xe xf xg xh xi xj xk : Int) (xl xm xn xo xp xq xr xs : Bool) (xt xu xv xw xx xy xz x10 x11 : Int) (x12 x13 x14 x15 x16 x17 x18 x19 : Bool) (x1a x1b : Int) (k0 : Bool → Bool → Option β) : Option β :=
  G35_3 A B (F67_3 A B N) (F68_0 A B N) x0 x1 x2 x3 x4 x5 x6 x7 x8 x9 xa xb xc xd xe xf xg xh xi xj xk xl xm xn xo xp xq xr xs xt xu xv xw xx xy xz x10 x11 x12 x13 x14 x15 x16 x17 x18 x19 x1a x1b k0
def P128 : List PT := [(.r (.a [(.i .i64), (.i .i64), (.i .i64), (.i .i64), (.i .i64), (.i .i64), (.ro 4)])), (.r (.a [(.i .i64), (.i .i64), (.i .i64), (.i .i64), (.i .i64), (.i .i64), (.ro 4)])), (.r (.a [(.i .i64), (.i .i64), (.i .i64), (.i .i64), (.i .i64), .sn, (.i .i64), (.i .i64), .b, .b, .b, .b, .b, .b, .b, .b, .sn, (.i .i64), (.i .i64)])), (.r (.a [(.i .i64), (.i .i64), (.i .i64), (.i .i64), (.i .i64), .sn, (.i .i64), (.i .i64), .b, .b, .b, .b, .b, .b, .b, .b, .sn, (.i .i64), (.i .i64)]))]
def M35_3 {β : Type} (f35_3 : Int → Int → Int → Int → Int → Int → List R → Int → Int → Int → Int → Int → Int → List R → Int → Int → Int → Int → Int → Int → Int → Bool → Bool → Bool → Bool → Bool → Bool → Bool → Bool → Int → Int → Int → Int → Int → Int → Int → Int → Int → Bool → Bool → Bool → Bool → Bool → Bool → Bool → Bool → Int → Int → (Bool → Bool → Option β) → Option β) (a : List T) : Option ((T → List (List T) → Option β) → Option β) :=
  match gTs P128 a [] with
  | some (.i x0 :: .i x1 :: .i x2 :: .i x3 :: .i x4 :: .i x5 :: .l x6 :: .i x7 :: .i x8 :: .i x9 :: .i xa :: .i xb :: .i xc :: .l xd :: .i xe :: .i xf :: .i xg :: .i xh :: .i xi :: .i xj :: .i xk :: .b xl :: .b xm :: .b xn :: .b xo :: .b xp :: .b xq :: .b xr :: .b xs :: .i xt :: .i xu :: .i xv :: .i xw :: .i xx :: .i xy :: .i xz :: .i x10 :: .i x11 :: .b x12 :: .b x13 :: .b x14 :: .b x15 :: .b x16 :: .b x17 :: .b x18 :: .b x19 :: .i x1a :: .i x1b :: []) => some fun kk => f35_3 x0 x1 x2 x3 x4 x5 x6 x7 x8 x9 xa xb xc xd xe xf xg xh xi xj xk xl xm xn xo xp xq xr xs xt xu xv xw xx xy xz x10 x11 x12 x13 x14 x15 x16 x17 x18 x19 x1a x1b (fun x1c x1d => kk (T.tp true [(tB x1c), (tB x1d)]) [])
  | _ => none
theorem e35_3 {β : Type} (A : Pr) (B : Pk) (f67_3 : Int → Int → Int → Int → Int → Int → List R → Int → Int → Int → Int → Int → Int → List R → (KB β) → Option β) (f68_0 : Int → Int → Int → Int → Int → Int → Int → Bool → Bool → Bool → Bool → Bool → Bool → Bool → Bool → Int → Int → Int → Int → Int → Int → Int → Int → Int → Bool → Bool → Bool → Bool → Bool → Bool → Bool → Bool → Int → Int → (KB β) → Option β) (x0 x1 x2 x3 x4 x5 : Int) (x6 : List R) (x7 x8 x9 xa xb xc : Int) (xd : List R) (xe xf xg xh xi xj xk : Int) (xl xm xn xo xp xq xr xs : Bool) (xt xu xv xw xx xy xz x10 x11 : Int) (x12 x13 x14 x15 x16 x17 x18 x19 : Bool) (x1a x1b : Int) (kk : T → List (List T) → Option β) :
    uTs P128 (.i x0 :: .i x1 :: .i x2 :: .i x3 :: .i x4 :: .i x5 :: .l x6 :: .i x7 :: .i x8 :: .i x9 :: .i xa :: .i xb :: .i xc :: .l xd :: .i xe :: .i xf :: .i xg :: .i xh :: .i xi :: .i xj :: .i xk :: .b xl :: .b xm :: .b xn :: .b xo :: .b xp :: .b xq :: .b xr :: .b xs :: .i xt :: .i xu :: .i xv :: .i xw :: .i xx :: .i xy :: .i xz :: .i x10 :: .i x11 :: .b x12 :: .b x13 :: .b x14 :: .b x15 :: .b x16 :: .b x17 :: .b x18 :: .b x19 :: .i x1a :: .i x1b :: []) (fun a _ => bodyK (mkK Try.prog A B [(67, M67_3 f67_3), (68, M68_0 f68_0)] [] (Hn 35).pt []) Try.f35 a kk) = G35_3 A B f67_3 f68_0 x0 x1 x2 x3 x4 x5 x6 x7 x8 x9 xa xb xc xd xe xf xg xh xi xj xk xl xm xn xo xp xq xr xs xt xu xv xw xx xy xz x10 x11 x12 x13 x14 x15 x16 x17 x18 x19 x1a x1b (fun x1c x1d => kk (T.tp true [(tB x1c), (tB x1d)]) []) := by kernel_rfl
theorem o35_3 {β : Type} (N : Nat) : Snd (β := β) Try.prog Hn 35 (M35_3 (F35_3 re rk N)) := by
  intro a h kk r ha hr
  unfold M35_3 at ha
  split at ha
  · rename_i hs
    cases ha
    have hk := via_pat hs ((e35_3 re rk (F67_3 re rk N) (F68_0 re rk N) _ _ _ _ _ _ _ _ _ _ _ _ _ _ _ _ _ _ _ _ _ _ _ _ _ _ _ _ _ _ _ _ _ _ _ _ _ _ _ _ _ _ _ _ _ _ _ _ kk).trans hr)
    exact fn_ok (f := 35) (fn := Try.f35) (H := Hn) (by kernel_rfl) (show SndAll Try.prog Hn [(67, M67_3 (F67_3 re rk N)), (68, M68_0 (F68_0 re rk N))] from ⟨o67_3 N, o68_0 N, trivial⟩) (spots := []) (by kernel_rfl) trivial hk
  · cases ha
def GL71_5t4_0 {β : Type} (A : Pr) (B : Pk) (l71_5t4_0 : (Option β) → Q50 β) (k0 : Option β) (x0 x1 x2 x3 x4 x5 : Int) (x6 : List R) (x7 x8 x9 xa xb xc : Int) (xd : List R) (xe xf : Int) : Option β :=
    match (A.cm .lss xf xe) with
    | true => none
    | false => k0
def L71_5t4_0 {β : Type} (A : Pr) (B : Pk) (N : Nat) : Nat → (Option β) → Q50 β
  | 0, _, _, _, _, _, _, _, _, _, _, _, _, _, _, _, _, _ => none
  | n + 1, k0, x0, x1, x2, x3, x4, x5, x6, x7, x8, x9, xa, xb, xc, xd, xe, xf =>
    GL71_5t4_0 A B (L71_5t4_0 A B N n) k0 x0 x1 x2 x3 x4 x5 x6 x7 x8 x9 xa xb xc xd xe xf
def P129 : List PT := [.us 2, (.bx [pI, pI, pI, pI, pI, pI, (.r (.ro 4)), (.r .sn)]), (.bx [pI, pI, pI, pI, pI, pI, (.r (.ro 4)), (.r .sn)]), .us 27, pI, pI, .us 15]
noncomputable def M71_5t4 {β : Type} (l71_5t4_0 : (Option β) → Q50 β) (s : List T) : Option ((Ex → List T → Option β) → Option β) :=
  match gTs P129 (clean ((Hn 71).lp 5).1 s) [] with
  | some [.i x0, .i x1, .i x2, .i x3, .i x4, .i x5, .l x6, .i x7, .i x8, .i x9, .i xa, .i xb, .i xc, .l xd, .i xe, .i xf] => some fun kk => l71_5t4_0 (kk (Ex.ex 0) (S106)) x0 x1 x2 x3 x4 x5 x6 x7 x8 x9 xa xb xc xd xe xf
  | _ => none
theorem e71_5t4_0 {β : Type} (A : Pr) (B : Pk) (l71_5t4_0 : (Option β) → Q50 β) (x0 x1 x2 x3 x4 x5 : Int) (x6 : List R) (x7 x8 x9 xa xb xc : Int) (xd : List R) (xe xf : Int) (kk : Ex → List T → Option β) :
    uTs P129 [.i x0, .i x1, .i x2, .i x3, .i x4, .i x5, .l x6, .i x7, .i x8, .i x9, .i xa, .i xb, .i xc, .l xd, .i xe, .i xf] (fun s _ => evK (mkK Try.prog A B [] [] (Hn 71).pt []) X71_5 s (fun e s' => match e with
      | .nm => (match M71_5t4 l71_5t4_0 s' with | some h => h kk | none => none)
      | .ex m => kk (.ex m) (clean ((Hn 71).lp (firstReg X71_5)).2 s')
      | .rt => kk .rt (clean ((Hn 71).lp (firstReg X71_5)).2 s'))) = GL71_5t4_0 A B l71_5t4_0 (kk (Ex.ex 0) (S106)) x0 x1 x2 x3 x4 x5 x6 x7 x8 x9 xa xb xc xd xe xf := by kernel_rfl
theorem ol71_5t4 {β : Type} (N : Nat) : ∀ n, SndL (β := β) Try.prog Hn (Hn 71) X71_5 (M71_5t4 (L71_5t4_0 re rk N n))
  | 0 => by
    intro s h kk r ha hr
    unfold M71_5t4 at ha
    split at ha
    · cases ha; cases hr
    · cases ha
  | n + 1 => by
    have ih := ol71_5t4 (β := β) N n
    intro s h kk r ha hr
    unfold M71_5t4 at ha
    split at ha
    · rename_i hs
      cases ha
      have hk := via_pat hs ((e71_5t4_0 re rk (L71_5t4_0 re rk N n) _ _ _ _ _ _ _ _ _ _ _ _ _ _ _ _ kk).trans hr)
      exact round_ok (show SndAll Try.prog Hn [] from trivial) (spots := []) (by kernel_rfl) trivial ih (hd := clean ((Hn 71).lp 5).1 s) (by rw [i71_5]) hk
    · cases ha
def G71_4 {β : Type} (A : Pr) (B : Pk) (f35_3 : Int → Int → Int → Int → Int → Int → List R → Int → Int → Int → Int → Int → Int → List R → Int → Int → Int → Int → Int → Int → Int → Bool → Bool → Bool → Bool → Bool → Bool → Bool → Bool → Int → Int → Int → Int → Int → Int → Int → Int → Int → Bool → Bool → Bool → Bool → Bool → Bool → Bool → Bool → Int → Int → (Bool → Bool → Option β) → Option β) (l71_5t4_0 : (Option β) → Q50 β) (x0 x1 x2 x3 x4 x5 : Int) (x6 : List R) (x7 x8 x9 xa xb xc : Int) (xd : List R) (k0 : KB β) : Option β :=
    f35_3 x0 x1 x2 x3 x4 x5 x6 x7 x8 x9 xa xb xc xd 0 0 0 0 0 0 0 false false false false false false false false 0 0 0 0 0 0 0 0 0 false false false false false false false false 0 0 (fun xe xf =>
    match (A.bn xe) with
      | true => (k0 false)
      | false => (match (A.cm .neq (A.on 0) (A.on 0)) with
        | true => (k0 false)
        | false => (l71_5t4_0 (k0 true) x0 x1 x2 x3 x4 x5 x6 x7 x8 x9 xa xb xc xd (A.on 0) 0)))
def F71_4 {β : Type} (A : Pr) (B : Pk) (N : Nat) (x0 x1 x2 x3 x4 x5 : Int) (x6 : List R) (x7 x8 x9 xa xb xc : Int) (xd : List R) (k0 : KB β) : Option β :=
  G71_4 A B (F35_3 A B N) (L71_5t4_0 A B N N) x0 x1 x2 x3 x4 x5 x6 x7 x8 x9 xa xb xc xd k0
def P130 : List PT := [(.r (.a [(.i .i64), (.i .i64), (.i .i64), (.i .i64), (.i .i64), (.i .i64), (.ro 4), .sn])), (.r (.a [(.i .i64), (.i .i64), (.i .i64), (.i .i64), (.i .i64), (.i .i64), (.ro 4), .sn]))]
def M71_4 {β : Type} (f71_4 : Int → Int → Int → Int → Int → Int → List R → Int → Int → Int → Int → Int → Int → List R → (KB β) → Option β) (a : List T) : Option ((T → List (List T) → Option β) → Option β) :=
  match gTs P130 a [] with
  | some [.i x0, .i x1, .i x2, .i x3, .i x4, .i x5, .l x6, .i x7, .i x8, .i x9, .i xa, .i xb, .i xc, .l xd] => some fun kk => f71_4 x0 x1 x2 x3 x4 x5 x6 x7 x8 x9 xa xb xc xd (fun xe => kk (tB xe) [])
  | _ => none
theorem e71_4 {β : Type} (A : Pr) (B : Pk) (f35_3 : Int → Int → Int → Int → Int → Int → List R → Int → Int → Int → Int → Int → Int → List R → Int → Int → Int → Int → Int → Int → Int → Bool → Bool → Bool → Bool → Bool → Bool → Bool → Bool → Int → Int → Int → Int → Int → Int → Int → Int → Int → Bool → Bool → Bool → Bool → Bool → Bool → Bool → Bool → Int → Int → (Bool → Bool → Option β) → Option β) (l71_5t4_0 : (Option β) → Q50 β) (x0 x1 x2 x3 x4 x5 : Int) (x6 : List R) (x7 x8 x9 xa xb xc : Int) (xd : List R) (kk : T → List (List T) → Option β) :
    uTs P130 [.i x0, .i x1, .i x2, .i x3, .i x4, .i x5, .l x6, .i x7, .i x8, .i x9, .i xa, .i xb, .i xc, .l xd] (fun a _ => bodyK (mkK Try.prog A B [(35, M35_3 f35_3)] [(5, M71_5t4 l71_5t4_0)] (Hn 71).pt []) Try.f71 a kk) = G71_4 A B f35_3 l71_5t4_0 x0 x1 x2 x3 x4 x5 x6 x7 x8 x9 xa xb xc xd (fun xe => kk (tB xe) []) := by kernel_rfl
theorem o71_4 {β : Type} (N : Nat) : Snd (β := β) Try.prog Hn 71 (M71_4 (F71_4 re rk N)) := by
  intro a h kk r ha hr
  unfold M71_4 at ha
  split at ha
  · rename_i hs
    cases ha
    have hk := via_pat hs ((e71_4 re rk (F35_3 re rk N) (L71_5t4_0 re rk N N) _ _ _ _ _ _ _ _ _ _ _ _ _ _ kk).trans hr)
    exact fn_ok (f := 71) (fn := Try.f71) (H := Hn) (by kernel_rfl) (show SndAll Try.prog Hn [(35, M35_3 (F35_3 re rk N))] from ⟨o35_3 N, trivial⟩) (spots := [.lp X71_5]) (by kernel_rfl) ⟨cut_lp (id := 5) i71_5 (ol71_5t4 N N) (fun s kk => by kernel_rfl), trivial⟩ hk
  · cases ha
def G38_4 {β : Type} (A : Pr) (B : Pk) (f71_4 : Int → Int → Int → Int → Int → Int → List R → Int → Int → Int → Int → Int → Int → List R → (KB β) → Option β) (x0 x1 x2 x3 x4 x5 : Int) (x6 : List R) (x7 x8 x9 xa xb xc xd : Int) (xe : List R) (xf : Int) (k0 : KB β) : Option β :=
    match (A.cm .eql x7 xf) with
    | true => (f71_4 x0 x1 x2 x3 x4 x5 x6 x8 x9 xa xb xc xd xe (fun xg =>
      k0 xg))
    | false => (k0 false)
def F38_4 {β : Type} (A : Pr) (B : Pk) (N : Nat) (x0 x1 x2 x3 x4 x5 : Int) (x6 : List R) (x7 x8 x9 xa xb xc xd : Int) (xe : List R) (xf : Int) (k0 : KB β) : Option β :=
  G38_4 A B (F71_4 A B N) x0 x1 x2 x3 x4 x5 x6 x7 x8 x9 xa xb xc xd xe xf k0
def P131 : List PT := [(.r (.a [(.i .i64), (.i .i64), (.i .i64), (.i .i64), (.i .i64), (.i .i64), (.ro 4), .sn])), pI, (.r (.a [(.i .i64), (.i .i64), (.i .i64), (.i .i64), (.i .i64), (.i .i64), (.ro 4), .sn])), pI]
def M38_4 {β : Type} (f38_4 : Int → Int → Int → Int → Int → Int → List R → Int → Int → Int → Int → Int → Int → Int → List R → Int → (KB β) → Option β) (a : List T) : Option ((T → List (List T) → Option β) → Option β) :=
  match gTs P131 a [] with
  | some [.i x0, .i x1, .i x2, .i x3, .i x4, .i x5, .l x6, .i x7, .i x8, .i x9, .i xa, .i xb, .i xc, .i xd, .l xe, .i xf] => some fun kk => f38_4 x0 x1 x2 x3 x4 x5 x6 x7 x8 x9 xa xb xc xd xe xf (fun xg => kk (tB xg) [])
  | _ => none
theorem e38_4 {β : Type} (A : Pr) (B : Pk) (f71_4 : Int → Int → Int → Int → Int → Int → List R → Int → Int → Int → Int → Int → Int → List R → (KB β) → Option β) (x0 x1 x2 x3 x4 x5 : Int) (x6 : List R) (x7 x8 x9 xa xb xc xd : Int) (xe : List R) (xf : Int) (kk : T → List (List T) → Option β) :
    uTs P131 [.i x0, .i x1, .i x2, .i x3, .i x4, .i x5, .l x6, .i x7, .i x8, .i x9, .i xa, .i xb, .i xc, .i xd, .l xe, .i xf] (fun a _ => bodyK (mkK Try.prog A B [(71, M71_4 f71_4)] [] (Hn 38).pt []) Try.f38 a kk) = G38_4 A B f71_4 x0 x1 x2 x3 x4 x5 x6 x7 x8 x9 xa xb xc xd xe xf (fun xg => kk (tB xg) []) := by kernel_rfl
theorem o38_4 {β : Type} (N : Nat) : Snd (β := β) Try.prog Hn 38 (M38_4 (F38_4 re rk N)) := by
  intro a h kk r ha hr
  unfold M38_4 at ha
  split at ha
  · rename_i hs
    cases ha
    have hk := via_pat hs ((e38_4 re rk (F71_4 re rk N) _ _ _ _ _ _ _ _ _ _ _ _ _ _ _ _ kk).trans hr)
    exact fn_ok (f := 38) (fn := Try.f38) (H := Hn) (by kernel_rfl) (show SndAll Try.prog Hn [(71, M71_4 (F71_4 re rk N))] from ⟨o71_4 N, trivial⟩) (spots := []) (by kernel_rfl) trivial hk
  · cases ha
def GL71_5t5_0 {β : Type} (A : Pr) (B : Pk) (l71_5t5_0 : (Option β) → Q51 β) (k0 : Option β) (x0 x1 x2 x3 x4 x5 : Int) (x6 : List R) (x7 x8 x9 xa xb xc : Int) (xd xe : List R) (xf xg : Int) : Option β :=
    match (A.cm .lss xg xf) with
    | true => none
    | false => k0
def L71_5t5_0 {β : Type} (A : Pr) (B : Pk) (N : Nat) : Nat → (Option β) → Q51 β
  | 0, _, _, _, _, _, _, _, _, _, _, _, _, _, _, _, _, _, _ => none
  | n + 1, k0, x0, x1, x2, x3, x4, x5, x6, x7, x8, x9, xa, xb, xc, xd, xe, xf, xg =>
    GL71_5t5_0 A B (L71_5t5_0 A B N n) k0 x0 x1 x2 x3 x4 x5 x6 x7 x8 x9 xa xb xc xd xe xf xg
def P132 : List PT := [.us 2, (.bx [pI, pI, pI, pI, pI, pI, (.r (.ro 4)), (.r .sn)]), (.bx [pI, pI, pI, pI, pI, pI, (.r (.ro 4)), (.r (.ro 5))]), .us 27, pI, pI, .us 15]
noncomputable def M71_5t5 {β : Type} (l71_5t5_0 : (Option β) → Q51 β) (s : List T) : Option ((Ex → List T → Option β) → Option β) :=
  match gTs P132 (clean ((Hn 71).lp 5).1 s) [] with
  | some [.i x0, .i x1, .i x2, .i x3, .i x4, .i x5, .l x6, .i x7, .i x8, .i x9, .i xa, .i xb, .i xc, .l xd, .l xe, .i xf, .i xg] => some fun kk => l71_5t5_0 (kk (Ex.ex 0) (S106)) x0 x1 x2 x3 x4 x5 x6 x7 x8 x9 xa xb xc xd xe xf xg
  | _ => none
theorem e71_5t5_0 {β : Type} (A : Pr) (B : Pk) (l71_5t5_0 : (Option β) → Q51 β) (x0 x1 x2 x3 x4 x5 : Int) (x6 : List R) (x7 x8 x9 xa xb xc : Int) (xd xe : List R) (xf xg : Int) (kk : Ex → List T → Option β) :
    uTs P132 [.i x0, .i x1, .i x2, .i x3, .i x4, .i x5, .l x6, .i x7, .i x8, .i x9, .i xa, .i xb, .i xc, .l xd, .l xe, .i xf, .i xg] (fun s _ => evK (mkK Try.prog A B [] [] (Hn 71).pt []) X71_5 s (fun e s' => match e with
      | .nm => (match M71_5t5 l71_5t5_0 s' with | some h => h kk | none => none)
      | .ex m => kk (.ex m) (clean ((Hn 71).lp (firstReg X71_5)).2 s')
      | .rt => kk .rt (clean ((Hn 71).lp (firstReg X71_5)).2 s'))) = GL71_5t5_0 A B l71_5t5_0 (kk (Ex.ex 0) (S106)) x0 x1 x2 x3 x4 x5 x6 x7 x8 x9 xa xb xc xd xe xf xg := by kernel_rfl
theorem ol71_5t5 {β : Type} (N : Nat) : ∀ n, SndL (β := β) Try.prog Hn (Hn 71) X71_5 (M71_5t5 (L71_5t5_0 re rk N n))
  | 0 => by
    intro s h kk r ha hr
    unfold M71_5t5 at ha
    split at ha
    · cases ha; cases hr
    · cases ha
  | n + 1 => by
    have ih := ol71_5t5 (β := β) N n
    intro s h kk r ha hr
    unfold M71_5t5 at ha
    split at ha
    · rename_i hs
      cases ha
      have hk := via_pat hs ((e71_5t5_0 re rk (L71_5t5_0 re rk N n) _ _ _ _ _ _ _ _ _ _ _ _ _ _ _ _ _ kk).trans hr)
      exact round_ok (show SndAll Try.prog Hn [] from trivial) (spots := []) (by kernel_rfl) trivial ih (hd := clean ((Hn 71).lp 5).1 s) (by rw [i71_5]) hk
    · cases ha
def G71_5 {β : Type} (A : Pr) (B : Pk) (f35_3 : Int → Int → Int → Int → Int → Int → List R → Int → Int → Int → Int → Int → Int → List R → Int → Int → Int → Int → Int → Int → Int → Bool → Bool → Bool → Bool → Bool → Bool → Bool → Bool → Int → Int → Int → Int → Int → Int → Int → Int → Int → Bool → Bool → Bool → Bool → Bool → Bool → Bool → Bool → Int → Int → (Bool → Bool → Option β) → Option β) (l71_5t5_0 : (Option β) → Q51 β) (x0 x1 x2 x3 x4 x5 : Int) (x6 : List R) (x7 x8 x9 xa xb xc : Int) (xd xe : List R) (k0 : KB β) : Option β :=
    f35_3 x0 x1 x2 x3 x4 x5 x6 x7 x8 x9 xa xb xc xd 0 0 0 0 0 0 0 false false false false false false false false 0 0 0 0 0 0 0 0 0 false false false false false false false false 0 0 (fun xf xg =>
    match (A.bn xf) with
      | true => (k0 false)
      | false => (match (A.cm .neq (A.on 0) (A.on (A.len xe))) with
        | true => (k0 false)
        | false => (l71_5t5_0 (k0 true) x0 x1 x2 x3 x4 x5 x6 x7 x8 x9 xa xb xc xd xe (A.on 0) 0)))
def F71_5 {β : Type} (A : Pr) (B : Pk) (N : Nat) (x0 x1 x2 x3 x4 x5 : Int) (x6 : List R) (x7 x8 x9 xa xb xc : Int) (xd xe : List R) (k0 : KB β) : Option β :=
  G71_5 A B (F35_3 A B N) (L71_5t5_0 A B N N) x0 x1 x2 x3 x4 x5 x6 x7 x8 x9 xa xb xc xd xe k0
def P133 : List PT := [(.r (.a [(.i .i64), (.i .i64), (.i .i64), (.i .i64), (.i .i64), (.i .i64), (.ro 4), .sn])), (.r (.a [(.i .i64), (.i .i64), (.i .i64), (.i .i64), (.i .i64), (.i .i64), (.ro 4), (.ro 5)]))]
def MF71_5 {β : Type} (f71_5 : Int → Int → Int → Int → Int → Int → List R → Int → Int → Int → Int → Int → Int → List R → List R → (KB β) → Option β) (a : List T) : Option ((T → List (List T) → Option β) → Option β) :=
  match gTs P133 a [] with
  | some [.i x0, .i x1, .i x2, .i x3, .i x4, .i x5, .l x6, .i x7, .i x8, .i x9, .i xa, .i xb, .i xc, .l xd, .l xe] => some fun kk => f71_5 x0 x1 x2 x3 x4 x5 x6 x7 x8 x9 xa xb xc xd xe (fun xf => kk (tB xf) [])
  | _ => none
theorem e71_5 {β : Type} (A : Pr) (B : Pk) (f35_3 : Int → Int → Int → Int → Int → Int → List R → Int → Int → Int → Int → Int → Int → List R → Int → Int → Int → Int → Int → Int → Int → Bool → Bool → Bool → Bool → Bool → Bool → Bool → Bool → Int → Int → Int → Int → Int → Int → Int → Int → Int → Bool → Bool → Bool → Bool → Bool → Bool → Bool → Bool → Int → Int → (Bool → Bool → Option β) → Option β) (l71_5t5_0 : (Option β) → Q51 β) (x0 x1 x2 x3 x4 x5 : Int) (x6 : List R) (x7 x8 x9 xa xb xc : Int) (xd xe : List R) (kk : T → List (List T) → Option β) :
    uTs P133 [.i x0, .i x1, .i x2, .i x3, .i x4, .i x5, .l x6, .i x7, .i x8, .i x9, .i xa, .i xb, .i xc, .l xd, .l xe] (fun a _ => bodyK (mkK Try.prog A B [(35, M35_3 f35_3)] [(5, M71_5t5 l71_5t5_0)] (Hn 71).pt []) Try.f71 a kk) = G71_5 A B f35_3 l71_5t5_0 x0 x1 x2 x3 x4 x5 x6 x7 x8 x9 xa xb xc xd xe (fun xf => kk (tB xf) []) := by kernel_rfl
theorem o71_5 {β : Type} (N : Nat) : Snd (β := β) Try.prog Hn 71 (MF71_5 (F71_5 re rk N)) := by
  intro a h kk r ha hr
  unfold MF71_5 at ha
  split at ha
  · rename_i hs
    cases ha
    have hk := via_pat hs ((e71_5 re rk (F35_3 re rk N) (L71_5t5_0 re rk N N) _ _ _ _ _ _ _ _ _ _ _ _ _ _ _ kk).trans hr)
    exact fn_ok (f := 71) (fn := Try.f71) (H := Hn) (by kernel_rfl) (show SndAll Try.prog Hn [(35, M35_3 (F35_3 re rk N))] from ⟨o35_3 N, trivial⟩) (spots := [.lp X71_5]) (by kernel_rfl) ⟨cut_lp (id := 5) i71_5 (ol71_5t5 N N) (fun s kk => by kernel_rfl), trivial⟩ hk
  · cases ha
def G38_5 {β : Type} (A : Pr) (B : Pk) (f71_5 : Int → Int → Int → Int → Int → Int → List R → Int → Int → Int → Int → Int → Int → List R → List R → (KB β) → Option β) (x0 x1 x2 x3 x4 x5 : Int) (x6 : List R) (x7 x8 x9 xa xb xc xd : Int) (xe xf : List R) (xg : Int) (k0 : KB β) : Option β :=
    match (A.cm .eql x7 xg) with
    | true => (f71_5 x0 x1 x2 x3 x4 x5 x6 x8 x9 xa xb xc xd xe xf (fun xh =>
      k0 xh))
    | false => (k0 false)
def F38_5 {β : Type} (A : Pr) (B : Pk) (N : Nat) (x0 x1 x2 x3 x4 x5 : Int) (x6 : List R) (x7 x8 x9 xa xb xc xd : Int) (xe xf : List R) (xg : Int) (k0 : KB β) : Option β :=
  G38_5 A B (F71_5 A B N) x0 x1 x2 x3 x4 x5 x6 x7 x8 x9 xa xb xc xd xe xf xg k0
def P134 : List PT := [(.r (.a [(.i .i64), (.i .i64), (.i .i64), (.i .i64), (.i .i64), (.i .i64), (.ro 4), .sn])), pI, (.r (.a [(.i .i64), (.i .i64), (.i .i64), (.i .i64), (.i .i64), (.i .i64), (.ro 4), (.ro 5)])), pI]
def M38_5 {β : Type} (f38_5 : Int → Int → Int → Int → Int → Int → List R → Int → Int → Int → Int → Int → Int → Int → List R → List R → Int → (KB β) → Option β) (a : List T) : Option ((T → List (List T) → Option β) → Option β) :=
  match gTs P134 a [] with
  | some [.i x0, .i x1, .i x2, .i x3, .i x4, .i x5, .l x6, .i x7, .i x8, .i x9, .i xa, .i xb, .i xc, .i xd, .l xe, .l xf, .i xg] => some fun kk => f38_5 x0 x1 x2 x3 x4 x5 x6 x7 x8 x9 xa xb xc xd xe xf xg (fun xh => kk (tB xh) [])
  | _ => none
theorem e38_5 {β : Type} (A : Pr) (B : Pk) (f71_5 : Int → Int → Int → Int → Int → Int → List R → Int → Int → Int → Int → Int → Int → List R → List R → (KB β) → Option β) (x0 x1 x2 x3 x4 x5 : Int) (x6 : List R) (x7 x8 x9 xa xb xc xd : Int) (xe xf : List R) (xg : Int) (kk : T → List (List T) → Option β) :
    uTs P134 [.i x0, .i x1, .i x2, .i x3, .i x4, .i x5, .l x6, .i x7, .i x8, .i x9, .i xa, .i xb, .i xc, .i xd, .l xe, .l xf, .i xg] (fun a _ => bodyK (mkK Try.prog A B [(71, MF71_5 f71_5)] [] (Hn 38).pt []) Try.f38 a kk) = G38_5 A B f71_5 x0 x1 x2 x3 x4 x5 x6 x7 x8 x9 xa xb xc xd xe xf xg (fun xh => kk (tB xh) []) := by kernel_rfl
theorem o38_5 {β : Type} (N : Nat) : Snd (β := β) Try.prog Hn 38 (M38_5 (F38_5 re rk N)) := by
  intro a h kk r ha hr
  unfold M38_5 at ha
  split at ha
  · rename_i hs
    cases ha
    have hk := via_pat hs ((e38_5 re rk (F71_5 re rk N) _ _ _ _ _ _ _ _ _ _ _ _ _ _ _ _ _ kk).trans hr)
    exact fn_ok (f := 38) (fn := Try.f38) (H := Hn) (by kernel_rfl) (show SndAll Try.prog Hn [(71, MF71_5 (F71_5 re rk N))] from ⟨o71_5 N, trivial⟩) (spots := []) (by kernel_rfl) trivial hk
  · cases ha
def GL71_5t6_0 {β : Type} (A : Pr) (B : Pk) (l71_5t6_0 : (Option β) → Q52 β) (k0 : Option β) (x0 x1 x2 x3 x4 x5 : Int) (x6 x7 : List R) (x8 x9 xa xb xc xd xe xf : Int) : Option β :=
    match (A.cm .lss xf xe) with
    | true => (match (A.ix xf (A.len x7)) with
      | some xg => (match (B.okE [(Sh.i .i64), (Sh.i .i64), (Sh.i .i64), (Sh.i .i64), (Sh.sl 1 (Sh.i .i64))] true x7 xg) with
        | true => none
        | false => none)
      | none => none)
    | false => k0
def L71_5t6_0 {β : Type} (A : Pr) (B : Pk) (N : Nat) : Nat → (Option β) → Q52 β
  | 0, _, _, _, _, _, _, _, _, _, _, _, _, _, _, _, _, _ => none
  | n + 1, k0, x0, x1, x2, x3, x4, x5, x6, x7, x8, x9, xa, xb, xc, xd, xe, xf =>
    GL71_5t6_0 A B (L71_5t6_0 A B N n) k0 x0 x1 x2 x3 x4 x5 x6 x7 x8 x9 xa xb xc xd xe xf
def P135 : List PT := [.us 2, (.bx [pI, pI, pI, pI, pI, pI, (.r (.ro 4)), (.r (.ro 5))]), (.bx [pI, pI, pI, pI, pI, pI, (.r .sn), (.r .sn)]), .us 27, pI, pI, .us 15]
noncomputable def M71_5t6 {β : Type} (l71_5t6_0 : (Option β) → Q52 β) (s : List T) : Option ((Ex → List T → Option β) → Option β) :=
  match gTs P135 (clean ((Hn 71).lp 5).1 s) [] with
  | some [.i x0, .i x1, .i x2, .i x3, .i x4, .i x5, .l x6, .l x7, .i x8, .i x9, .i xa, .i xb, .i xc, .i xd, .i xe, .i xf] => some fun kk => l71_5t6_0 (kk (Ex.ex 0) (S106)) x0 x1 x2 x3 x4 x5 x6 x7 x8 x9 xa xb xc xd xe xf
  | _ => none
theorem e71_5t6_0 {β : Type} (A : Pr) (B : Pk) (l71_5t6_0 : (Option β) → Q52 β) (x0 x1 x2 x3 x4 x5 : Int) (x6 x7 : List R) (x8 x9 xa xb xc xd xe xf : Int) (kk : Ex → List T → Option β) :
    uTs P135 [.i x0, .i x1, .i x2, .i x3, .i x4, .i x5, .l x6, .l x7, .i x8, .i x9, .i xa, .i xb, .i xc, .i xd, .i xe, .i xf] (fun s _ => evK (mkK Try.prog A B [] [] (Hn 71).pt []) X71_5 s (fun e s' => match e with
      | .nm => (match M71_5t6 l71_5t6_0 s' with | some h => h kk | none => none)
      | .ex m => kk (.ex m) (clean ((Hn 71).lp (firstReg X71_5)).2 s')
      | .rt => kk .rt (clean ((Hn 71).lp (firstReg X71_5)).2 s'))) = GL71_5t6_0 A B l71_5t6_0 (kk (Ex.ex 0) (S106)) x0 x1 x2 x3 x4 x5 x6 x7 x8 x9 xa xb xc xd xe xf := by kernel_rfl
theorem ol71_5t6 {β : Type} (N : Nat) : ∀ n, SndL (β := β) Try.prog Hn (Hn 71) X71_5 (M71_5t6 (L71_5t6_0 re rk N n))
  | 0 => by
    intro s h kk r ha hr
    unfold M71_5t6 at ha
    split at ha
    · cases ha; cases hr
    · cases ha
  | n + 1 => by
    have ih := ol71_5t6 (β := β) N n
    intro s h kk r ha hr
    unfold M71_5t6 at ha
    split at ha
    · rename_i hs
      cases ha
      have hk := via_pat hs ((e71_5t6_0 re rk (L71_5t6_0 re rk N n) _ _ _ _ _ _ _ _ _ _ _ _ _ _ _ _ kk).trans hr)
      exact round_ok (show SndAll Try.prog Hn [] from trivial) (spots := []) (by kernel_rfl) trivial ih (hd := clean ((Hn 71).lp 5).1 s) (by rw [i71_5]) hk
    · cases ha
def G71_6 {β : Type} (A : Pr) (B : Pk) (f35_2 : Int → Int → Int → Int → Int → Int → List R → Int → Int → Int → Int → Int → Int → Int → Int → Int → Int → Int → Int → Int → Bool → Bool → Bool → Bool → Bool → Bool → Bool → Bool → Int → Int → Int → Int → Int → Int → Int → Int → Int → Bool → Bool → Bool → Bool → Bool → Bool → Bool → Bool → Int → Int → (Bool → Bool → Option β) → Option β) (l71_5t6_0 : (Option β) → Q52 β) (x0 x1 x2 x3 x4 x5 : Int) (x6 x7 : List R) (x8 x9 xa xb xc xd : Int) (k0 : KB β) : Option β :=
    f35_2 x0 x1 x2 x3 x4 x5 x6 x8 x9 xa xb xc xd 0 0 0 0 0 0 0 false false false false false false false false 0 0 0 0 0 0 0 0 0 false false false false false false false false 0 0 (fun xe xf =>
    match (A.bn xe) with
      | true => (k0 false)
      | false => (match (A.cm .neq (A.on (A.len x7)) (A.on 0)) with
        | true => (k0 false)
        | false => (l71_5t6_0 (k0 true) x0 x1 x2 x3 x4 x5 x6 x7 x8 x9 xa xb xc xd (A.on (A.len x7)) 0)))
def F71_6 {β : Type} (A : Pr) (B : Pk) (N : Nat) (x0 x1 x2 x3 x4 x5 : Int) (x6 x7 : List R) (x8 x9 xa xb xc xd : Int) (k0 : KB β) : Option β :=
  G71_6 A B (F35_2 A B N) (L71_5t6_0 A B N N) x0 x1 x2 x3 x4 x5 x6 x7 x8 x9 xa xb xc xd k0
def P136 : List PT := [(.r (.a [(.i .i64), (.i .i64), (.i .i64), (.i .i64), (.i .i64), (.i .i64), (.ro 4), (.ro 5)])), (.r (.a [(.i .i64), (.i .i64), (.i .i64), (.i .i64), (.i .i64), (.i .i64), .sn, .sn]))]
def M71_6 {β : Type} (f71_6 : Int → Int → Int → Int → Int → Int → List R → List R → Int → Int → Int → Int → Int → Int → (KB β) → Option β) (a : List T) : Option ((T → List (List T) → Option β) → Option β) :=
  match gTs P136 a [] with
  | some [.i x0, .i x1, .i x2, .i x3, .i x4, .i x5, .l x6, .l x7, .i x8, .i x9, .i xa, .i xb, .i xc, .i xd] => some fun kk => f71_6 x0 x1 x2 x3 x4 x5 x6 x7 x8 x9 xa xb xc xd (fun xe => kk (tB xe) [])
  | _ => none
theorem e71_6 {β : Type} (A : Pr) (B : Pk) (f35_2 : Int → Int → Int → Int → Int → Int → List R → Int → Int → Int → Int → Int → Int → Int → Int → Int → Int → Int → Int → Int → Bool → Bool → Bool → Bool → Bool → Bool → Bool → Bool → Int → Int → Int → Int → Int → Int → Int → Int → Int → Bool → Bool → Bool → Bool → Bool → Bool → Bool → Bool → Int → Int → (Bool → Bool → Option β) → Option β) (l71_5t6_0 : (Option β) → Q52 β) (x0 x1 x2 x3 x4 x5 : Int) (x6 x7 : List R) (x8 x9 xa xb xc xd : Int) (kk : T → List (List T) → Option β) :
    uTs P136 [.i x0, .i x1, .i x2, .i x3, .i x4, .i x5, .l x6, .l x7, .i x8, .i x9, .i xa, .i xb, .i xc, .i xd] (fun a _ => bodyK (mkK Try.prog A B [(35, M35_2 f35_2)] [(5, M71_5t6 l71_5t6_0)] (Hn 71).pt []) Try.f71 a kk) = G71_6 A B f35_2 l71_5t6_0 x0 x1 x2 x3 x4 x5 x6 x7 x8 x9 xa xb xc xd (fun xe => kk (tB xe) []) := by kernel_rfl
theorem o71_6 {β : Type} (N : Nat) : Snd (β := β) Try.prog Hn 71 (M71_6 (F71_6 re rk N)) := by
  intro a h kk r ha hr
  unfold M71_6 at ha
  split at ha
  · rename_i hs
    cases ha
    have hk := via_pat hs ((e71_6 re rk (F35_2 re rk N) (L71_5t6_0 re rk N N) _ _ _ _ _ _ _ _ _ _ _ _ _ _ kk).trans hr)
    exact fn_ok (f := 71) (fn := Try.f71) (H := Hn) (by kernel_rfl) (show SndAll Try.prog Hn [(35, M35_2 (F35_2 re rk N))] from ⟨o35_2 N, trivial⟩) (spots := [.lp X71_5]) (by kernel_rfl) ⟨cut_lp (id := 5) i71_5 (ol71_5t6 N N) (fun s kk => by kernel_rfl), trivial⟩ hk
  · cases ha
def G38_6 {β : Type} (A : Pr) (B : Pk) (f71_6 : Int → Int → Int → Int → Int → Int → List R → List R → Int → Int → Int → Int → Int → Int → (KB β) → Option β) (x0 x1 x2 x3 x4 x5 : Int) (x6 x7 : List R) (x8 x9 xa xb xc xd xe xf : Int) (k0 : KB β) : Option β :=
    match (A.cm .eql x8 xf) with
    | true => (f71_6 x0 x1 x2 x3 x4 x5 x6 x7 x9 xa xb xc xd xe (fun xg =>
      k0 xg))
    | false => (k0 false)
def F38_6 {β : Type} (A : Pr) (B : Pk) (N : Nat) (x0 x1 x2 x3 x4 x5 : Int) (x6 x7 : List R) (x8 x9 xa xb xc xd xe xf : Int) (k0 : KB β) : Option β :=
  G38_6 A B (F71_6 A B N) x0 x1 x2 x3 x4 x5 x6 x7 x8 x9 xa xb xc xd xe xf k0
def P137 : List PT := [(.r (.a [(.i .i64), (.i .i64), (.i .i64), (.i .i64), (.i .i64), (.i .i64), (.ro 4), (.ro 5)])), pI, (.r (.a [(.i .i64), (.i .i64), (.i .i64), (.i .i64), (.i .i64), (.i .i64), .sn, .sn])), pI]
def M38_6 {β : Type} (f38_6 : Int → Int → Int → Int → Int → Int → List R → List R → Int → Int → Int → Int → Int → Int → Int → Int → (KB β) → Option β) (a : List T) : Option ((T → List (List T) → Option β) → Option β) :=
  match gTs P137 a [] with
  | some [.i x0, .i x1, .i x2, .i x3, .i x4, .i x5, .l x6, .l x7, .i x8, .i x9, .i xa, .i xb, .i xc, .i xd, .i xe, .i xf] => some fun kk => f38_6 x0 x1 x2 x3 x4 x5 x6 x7 x8 x9 xa xb xc xd xe xf (fun xg => kk (tB xg) [])
  | _ => none
theorem e38_6 {β : Type} (A : Pr) (B : Pk) (f71_6 : Int → Int → Int → Int → Int → Int → List R → List R → Int → Int → Int → Int → Int → Int → (KB β) → Option β) (x0 x1 x2 x3 x4 x5 : Int) (x6 x7 : List R) (x8 x9 xa xb xc xd xe xf : Int) (kk : T → List (List T) → Option β) :
    uTs P137 [.i x0, .i x1, .i x2, .i x3, .i x4, .i x5, .l x6, .l x7, .i x8, .i x9, .i xa, .i xb, .i xc, .i xd, .i xe, .i xf] (fun a _ => bodyK (mkK Try.prog A B [(71, M71_6 f71_6)] [] (Hn 38).pt []) Try.f38 a kk) = G38_6 A B f71_6 x0 x1 x2 x3 x4 x5 x6 x7 x8 x9 xa xb xc xd xe xf (fun xg => kk (tB xg) []) := by kernel_rfl
theorem o38_6 {β : Type} (N : Nat) : Snd (β := β) Try.prog Hn 38 (M38_6 (F38_6 re rk N)) := by
  intro a h kk r ha hr
  unfold M38_6 at ha
  split at ha
  · rename_i hs
    cases ha
    have hk := via_pat hs ((e38_6 re rk (F71_6 re rk N) _ _ _ _ _ _ _ _ _ _ _ _ _ _ _ _ kk).trans hr)
    exact fn_ok (f := 38) (fn := Try.f38) (H := Hn) (by kernel_rfl) (show SndAll Try.prog Hn [(71, M71_6 (F71_6 re rk N))] from ⟨o71_6 N, trivial⟩) (spots := []) (by kernel_rfl) trivial hk
  · cases ha
def GL71_5t7_0 {β : Type} (A : Pr) (B : Pk) (l71_5t7_0 : (Option β) → Q53 β) (k0 : Option β) (x0 x1 x2 x3 x4 x5 : Int) (x6 x7 : List R) (x8 x9 xa xb xc xd : Int) (xe : List R) (xf xg : Int) : Option β :=
    match (A.cm .lss xg xf) with
    | true => (match (A.ix xg (A.len x7)) with
      | some xh => (match (B.okE [(Sh.i .i64), (Sh.i .i64), (Sh.i .i64), (Sh.i .i64), (Sh.sl 1 (Sh.i .i64))] true x7 xh) with
        | true => none
        | false => none)
      | none => none)
    | false => k0
def L71_5t7_0 {β : Type} (A : Pr) (B : Pk) (N : Nat) : Nat → (Option β) → Q53 β
  | 0, _, _, _, _, _, _, _, _, _, _, _, _, _, _, _, _, _, _ => none
  | n + 1, k0, x0, x1, x2, x3, x4, x5, x6, x7, x8, x9, xa, xb, xc, xd, xe, xf, xg =>
    GL71_5t7_0 A B (L71_5t7_0 A B N n) k0 x0 x1 x2 x3 x4 x5 x6 x7 x8 x9 xa xb xc xd xe xf xg
def P138 : List PT := [.us 2, (.bx [pI, pI, pI, pI, pI, pI, (.r (.ro 4)), (.r (.ro 5))]), (.bx [pI, pI, pI, pI, pI, pI, (.r (.ro 4)), (.r .sn)]), .us 27, pI, pI, .us 15]
noncomputable def M71_5t7 {β : Type} (l71_5t7_0 : (Option β) → Q53 β) (s : List T) : Option ((Ex → List T → Option β) → Option β) :=
  match gTs P138 (clean ((Hn 71).lp 5).1 s) [] with
  | some [.i x0, .i x1, .i x2, .i x3, .i x4, .i x5, .l x6, .l x7, .i x8, .i x9, .i xa, .i xb, .i xc, .i xd, .l xe, .i xf, .i xg] => some fun kk => l71_5t7_0 (kk (Ex.ex 0) (S106)) x0 x1 x2 x3 x4 x5 x6 x7 x8 x9 xa xb xc xd xe xf xg
  | _ => none
theorem e71_5t7_0 {β : Type} (A : Pr) (B : Pk) (l71_5t7_0 : (Option β) → Q53 β) (x0 x1 x2 x3 x4 x5 : Int) (x6 x7 : List R) (x8 x9 xa xb xc xd : Int) (xe : List R) (xf xg : Int) (kk : Ex → List T → Option β) :
    uTs P138 [.i x0, .i x1, .i x2, .i x3, .i x4, .i x5, .l x6, .l x7, .i x8, .i x9, .i xa, .i xb, .i xc, .i xd, .l xe, .i xf, .i xg] (fun s _ => evK (mkK Try.prog A B [] [] (Hn 71).pt []) X71_5 s (fun e s' => match e with
      | .nm => (match M71_5t7 l71_5t7_0 s' with | some h => h kk | none => none)
      | .ex m => kk (.ex m) (clean ((Hn 71).lp (firstReg X71_5)).2 s')
      | .rt => kk .rt (clean ((Hn 71).lp (firstReg X71_5)).2 s'))) = GL71_5t7_0 A B l71_5t7_0 (kk (Ex.ex 0) (S106)) x0 x1 x2 x3 x4 x5 x6 x7 x8 x9 xa xb xc xd xe xf xg := by kernel_rfl
theorem ol71_5t7 {β : Type} (N : Nat) : ∀ n, SndL (β := β) Try.prog Hn (Hn 71) X71_5 (M71_5t7 (L71_5t7_0 re rk N n))
  | 0 => by
    intro s h kk r ha hr
    unfold M71_5t7 at ha
    split at ha
    · cases ha; cases hr
    · cases ha
  | n + 1 => by
    have ih := ol71_5t7 (β := β) N n
    intro s h kk r ha hr
    unfold M71_5t7 at ha
    split at ha
    · rename_i hs
      cases ha
      have hk := via_pat hs ((e71_5t7_0 re rk (L71_5t7_0 re rk N n) _ _ _ _ _ _ _ _ _ _ _ _ _ _ _ _ _ kk).trans hr)
      exact round_ok (show SndAll Try.prog Hn [] from trivial) (spots := []) (by kernel_rfl) trivial ih (hd := clean ((Hn 71).lp 5).1 s) (by rw [i71_5]) hk
    · cases ha
def G71_7 {β : Type} (A : Pr) (B : Pk) (f35_3 : Int → Int → Int → Int → Int → Int → List R → Int → Int → Int → Int → Int → Int → List R → Int → Int → Int → Int → Int → Int → Int → Bool → Bool → Bool → Bool → Bool → Bool → Bool → Bool → Int → Int → Int → Int → Int → Int → Int → Int → Int → Bool → Bool → Bool → Bool → Bool → Bool → Bool → Bool → Int → Int → (Bool → Bool → Option β) → Option β) (l71_5t7_0 : (Option β) → Q53 β) (x0 x1 x2 x3 x4 x5 : Int) (x6 x7 : List R) (x8 x9 xa xb xc xd : Int) (xe : List R) (k0 : KB β) : Option β :=
    f35_3 x0 x1 x2 x3 x4 x5 x6 x8 x9 xa xb xc xd xe 0 0 0 0 0 0 0 false false false false false false false false 0 0 0 0 0 0 0 0 0 false false false false false false false false 0 0 (fun xf xg =>
    match (A.bn xf) with
      | true => (k0 false)
      | false => (match (A.cm .neq (A.on (A.len x7)) (A.on 0)) with
        | true => (k0 false)
        | false => (l71_5t7_0 (k0 true) x0 x1 x2 x3 x4 x5 x6 x7 x8 x9 xa xb xc xd xe (A.on (A.len x7)) 0)))
def F71_7 {β : Type} (A : Pr) (B : Pk) (N : Nat) (x0 x1 x2 x3 x4 x5 : Int) (x6 x7 : List R) (x8 x9 xa xb xc xd : Int) (xe : List R) (k0 : KB β) : Option β :=
  G71_7 A B (F35_3 A B N) (L71_5t7_0 A B N N) x0 x1 x2 x3 x4 x5 x6 x7 x8 x9 xa xb xc xd xe k0
def P139 : List PT := [(.r (.a [(.i .i64), (.i .i64), (.i .i64), (.i .i64), (.i .i64), (.i .i64), (.ro 4), (.ro 5)])), (.r (.a [(.i .i64), (.i .i64), (.i .i64), (.i .i64), (.i .i64), (.i .i64), (.ro 4), .sn]))]
def M71_7 {β : Type} (f71_7 : Int → Int → Int → Int → Int → Int → List R → List R → Int → Int → Int → Int → Int → Int → List R → (KB β) → Option β) (a : List T) : Option ((T → List (List T) → Option β) → Option β) :=
  match gTs P139 a [] with
  | some [.i x0, .i x1, .i x2, .i x3, .i x4, .i x5, .l x6, .l x7, .i x8, .i x9, .i xa, .i xb, .i xc, .i xd, .l xe] => some fun kk => f71_7 x0 x1 x2 x3 x4 x5 x6 x7 x8 x9 xa xb xc xd xe (fun xf => kk (tB xf) [])
  | _ => none
theorem e71_7 {β : Type} (A : Pr) (B : Pk) (f35_3 : Int → Int → Int → Int → Int → Int → List R → Int → Int → Int → Int → Int → Int → List R → Int → Int → Int → Int → Int → Int → Int → Bool → Bool → Bool → Bool → Bool → Bool → Bool → Bool → Int → Int → Int → Int → Int → Int → Int → Int → Int → Bool → Bool → Bool → Bool → Bool → Bool → Bool → Bool → Int → Int → (Bool → Bool → Option β) → Option β) (l71_5t7_0 : (Option β) → Q53 β) (x0 x1 x2 x3 x4 x5 : Int) (x6 x7 : List R) (x8 x9 xa xb xc xd : Int) (xe : List R) (kk : T → List (List T) → Option β) :
    uTs P139 [.i x0, .i x1, .i x2, .i x3, .i x4, .i x5, .l x6, .l x7, .i x8, .i x9, .i xa, .i xb, .i xc, .i xd, .l xe] (fun a _ => bodyK (mkK Try.prog A B [(35, M35_3 f35_3)] [(5, M71_5t7 l71_5t7_0)] (Hn 71).pt []) Try.f71 a kk) = G71_7 A B f35_3 l71_5t7_0 x0 x1 x2 x3 x4 x5 x6 x7 x8 x9 xa xb xc xd xe (fun xf => kk (tB xf) []) := by kernel_rfl
theorem o71_7 {β : Type} (N : Nat) : Snd (β := β) Try.prog Hn 71 (M71_7 (F71_7 re rk N)) := by
  intro a h kk r ha hr
  unfold M71_7 at ha
  split at ha
  · rename_i hs
    cases ha
    have hk := via_pat hs ((e71_7 re rk (F35_3 re rk N) (L71_5t7_0 re rk N N) _ _ _ _ _ _ _ _ _ _ _ _ _ _ _ kk).trans hr)
    exact fn_ok (f := 71) (fn := Try.f71) (H := Hn) (by kernel_rfl) (show SndAll Try.prog Hn [(35, M35_3 (F35_3 re rk N))] from ⟨o35_3 N, trivial⟩) (spots := [.lp X71_5]) (by kernel_rfl) ⟨cut_lp (id := 5) i71_5 (ol71_5t7 N N) (fun s kk => by kernel_rfl), trivial⟩ hk
  · cases ha
def G38_7 {β : Type} (A : Pr) (B : Pk) (f71_7 : Int → Int → Int → Int → Int → Int → List R → List R → Int → Int → Int → Int → Int → Int → List R → (KB β) → Option β) (x0 x1 x2 x3 x4 x5 : Int) (x6 x7 : List R) (x8 x9 xa xb xc xd xe : Int) (xf : List R) (xg : Int) (k0 : KB β) : Option β :=
    match (A.cm .eql x8 xg) with
    | true => (f71_7 x0 x1 x2 x3 x4 x5 x6 x7 x9 xa xb xc xd xe xf (fun xh =>
      k0 xh))
    | false => (k0 false)
def F38_7 {β : Type} (A : Pr) (B : Pk) (N : Nat) (x0 x1 x2 x3 x4 x5 : Int) (x6 x7 : List R) (x8 x9 xa xb xc xd xe : Int) (xf : List R) (xg : Int) (k0 : KB β) : Option β :=
  G38_7 A B (F71_7 A B N) x0 x1 x2 x3 x4 x5 x6 x7 x8 x9 xa xb xc xd xe xf xg k0
def P140 : List PT := [(.r (.a [(.i .i64), (.i .i64), (.i .i64), (.i .i64), (.i .i64), (.i .i64), (.ro 4), (.ro 5)])), pI, (.r (.a [(.i .i64), (.i .i64), (.i .i64), (.i .i64), (.i .i64), (.i .i64), (.ro 4), .sn])), pI]
def M38_7 {β : Type} (f38_7 : Int → Int → Int → Int → Int → Int → List R → List R → Int → Int → Int → Int → Int → Int → Int → List R → Int → (KB β) → Option β) (a : List T) : Option ((T → List (List T) → Option β) → Option β) :=
  match gTs P140 a [] with
  | some [.i x0, .i x1, .i x2, .i x3, .i x4, .i x5, .l x6, .l x7, .i x8, .i x9, .i xa, .i xb, .i xc, .i xd, .i xe, .l xf, .i xg] => some fun kk => f38_7 x0 x1 x2 x3 x4 x5 x6 x7 x8 x9 xa xb xc xd xe xf xg (fun xh => kk (tB xh) [])
  | _ => none
theorem e38_7 {β : Type} (A : Pr) (B : Pk) (f71_7 : Int → Int → Int → Int → Int → Int → List R → List R → Int → Int → Int → Int → Int → Int → List R → (KB β) → Option β) (x0 x1 x2 x3 x4 x5 : Int) (x6 x7 : List R) (x8 x9 xa xb xc xd xe : Int) (xf : List R) (xg : Int) (kk : T → List (List T) → Option β) :
    uTs P140 [.i x0, .i x1, .i x2, .i x3, .i x4, .i x5, .l x6, .l x7, .i x8, .i x9, .i xa, .i xb, .i xc, .i xd, .i xe, .l xf, .i xg] (fun a _ => bodyK (mkK Try.prog A B [(71, M71_7 f71_7)] [] (Hn 38).pt []) Try.f38 a kk) = G38_7 A B f71_7 x0 x1 x2 x3 x4 x5 x6 x7 x8 x9 xa xb xc xd xe xf xg (fun xh => kk (tB xh) []) := by kernel_rfl
theorem o38_7 {β : Type} (N : Nat) : Snd (β := β) Try.prog Hn 38 (M38_7 (F38_7 re rk N)) := by
  intro a h kk r ha hr
  unfold M38_7 at ha
  split at ha
  · rename_i hs
    cases ha
    have hk := via_pat hs ((e38_7 re rk (F71_7 re rk N) _ _ _ _ _ _ _ _ _ _ _ _ _ _ _ _ _ kk).trans hr)
    exact fn_ok (f := 38) (fn := Try.f38) (H := Hn) (by kernel_rfl) (show SndAll Try.prog Hn [(71, M71_7 (F71_7 re rk N))] from ⟨o71_7 N, trivial⟩) (spots := []) (by kernel_rfl) trivial hk
  · cases ha
noncomputable def X122_4 : Code := atF Try.f122 [true, true, false, true, false, false]
theorem i122_4 : firstReg X122_4 = 4 := by kernel_rfl
def GL122_4_0 {β : Type} (A : Pr) (B : Pk) (l122_4_0 : (List R → List R → Bool → Option β) → (List R → List R → Option β) → List R → List R → Int → Option β) (k0 : List R → List R → Bool → Option β) (k1 : List R → List R → Option β) (x0 x1 : List R) (x2 : Int) : Option β :=
    match (A.cm .lss x2 (A.on (A.len x0))) with
    | true => (match (A.ix x2 (A.len x0)) with
      | some x3 => (match (B.okE [(Sh.i .i64)] false x0 x3) with
        | true => (match (A.ix x2 (A.len x1)) with
          | some x4 => (match (B.okE [(Sh.i .i64)] false x1 x4) with
            | true => (match (A.cm .neq (B.ci x0 x3 0) (B.ci x1 x4 0)) with
              | true => (k0 x0 x1 false)
              | false => (l122_4_0 k0 k1 x0 x1 (A.ar .add .i64 x2 1)))
            | false => none)
          | none => none)
        | false => none)
      | none => none)
    | false => (k1 x0 x1)
def L122_4_0 {β : Type} (A : Pr) (B : Pk) (N : Nat) : Nat → (List R → List R → Bool → Option β) → (List R → List R → Option β) → List R → List R → Int → Option β
  | 0, _, _, _, _, _ => none
  | n + 1, k0, k1, x0, x1, x2 =>
    GL122_4_0 A B (L122_4_0 A B N n) k0 k1 x0 x1 x2
def P141 : List PT := [(.r (.ro 1)), (.r (.ro 1)), .us 2, pB, .us 21]
def S141 (x0 x1 : List R) (x2 : Bool) : List T := [(T.r (R.ro 1 x0)), (T.r (R.ro 1 x1)), T.u, T.u, (tB x2), T.u, T.u, T.u, T.u, T.u, T.u, T.u, T.u, T.u, T.u, T.u, T.u, T.u, T.u, T.u, T.u, T.u, T.u, T.u, T.u, T.u]
def P142 : List PT := [(.r (.ro 1)), (.r (.ro 1)), .us 24]
def S142 (x0 x1 : List R) : List T := [(T.r (R.ro 1 x0)), (T.r (R.ro 1 x1)), T.u, T.u, T.u, T.u, T.u, T.u, T.u, T.u, T.u, T.u, T.u, T.u, T.u, T.u, T.u, T.u, T.u, T.u, T.u, T.u, T.u, T.u, T.u, T.u]
def P143 : List PT := [(.r (.ro 1)), (.r (.ro 1)), .us 3, pI, .us 20]
noncomputable def M122_4 {β : Type} (l122_4_0 : (List R → List R → Bool → Option β) → (List R → List R → Option β) → List R → List R → Int → Option β) (s : List T) : Option ((Ex → List T → Option β) → Option β) :=
  match gTs P143 (clean ((Hn 122).lp 4).1 s) [] with
  | some [.l x0, .l x1, .i x2] => some fun kk => l122_4_0 (fun x3 x4 x5 => kk Ex.rt (S141 x3 x4 x5)) (fun x6 x7 => kk (Ex.ex 0) (S142 x6 x7)) x0 x1 x2
  | _ => none
theorem e122_4_0 {β : Type} (A : Pr) (B : Pk) (l122_4_0 : (List R → List R → Bool → Option β) → (List R → List R → Option β) → List R → List R → Int → Option β) (x0 x1 : List R) (x2 : Int) (kk : Ex → List T → Option β) :
    uTs P143 [.l x0, .l x1, .i x2] (fun s _ => evK (mkK Try.prog A B [] [] (Hn 122).pt []) X122_4 s (fun e s' => match e with
      | .nm => (match M122_4 l122_4_0 s' with | some h => h kk | none => none)
      | .ex m => kk (.ex m) (clean ((Hn 122).lp (firstReg X122_4)).2 s')
      | .rt => kk .rt (clean ((Hn 122).lp (firstReg X122_4)).2 s'))) = GL122_4_0 A B l122_4_0 (fun x3 x4 x5 => kk Ex.rt (S141 x3 x4 x5)) (fun x6 x7 => kk (Ex.ex 0) (S142 x6 x7)) x0 x1 x2 := by kernel_rfl
theorem ol122_4 {β : Type} (N : Nat) : ∀ n, SndL (β := β) Try.prog Hn (Hn 122) X122_4 (M122_4 (L122_4_0 re rk N n))
  | 0 => by
    intro s h kk r ha hr
    unfold M122_4 at ha
    split at ha
    · cases ha; cases hr
    · cases ha
  | n + 1 => by
    have ih := ol122_4 (β := β) N n
    intro s h kk r ha hr
    unfold M122_4 at ha
    split at ha
    · rename_i hs
      cases ha
      have hk := via_pat hs ((e122_4_0 re rk (L122_4_0 re rk N n) _ _ _ kk).trans hr)
      exact round_ok (show SndAll Try.prog Hn [] from trivial) (spots := []) (by kernel_rfl) trivial ih (hd := clean ((Hn 122).lp 4).1 s) (by rw [i122_4]) hk
    · cases ha
def G122_0 {β : Type} (A : Pr) (B : Pk) (l122_4_0 : (List R → List R → Bool → Option β) → (List R → List R → Option β) → List R → List R → Int → Option β) (x0 x1 : List R) (k0 : KB β) : Option β :=
    match (A.cm .neq (A.on (A.len x0)) (A.on (A.len x1))) with
    | true => (k0 false)
    | false => (l122_4_0 (fun x2 x3 x4 =>
      k0 x4) (fun x5 x6 =>
      k0 true) x0 x1 0)
def F122_0 {β : Type} (A : Pr) (B : Pk) (N : Nat) (x0 x1 : List R) (k0 : KB β) : Option β :=
  G122_0 A B (L122_4_0 A B N N) x0 x1 k0
def P144 : List PT := [(.r (.ro 1)), (.r (.ro 1))]
def M122_0 {β : Type} (f122_0 : List R → List R → (KB β) → Option β) (a : List T) : Option ((T → List (List T) → Option β) → Option β) :=
  match gTs P144 a [] with
  | some [.l x0, .l x1] => some fun kk => f122_0 x0 x1 (fun x2 => kk (tB x2) [])
  | _ => none
theorem e122_0 {β : Type} (A : Pr) (B : Pk) (l122_4_0 : (List R → List R → Bool → Option β) → (List R → List R → Option β) → List R → List R → Int → Option β) (x0 x1 : List R) (kk : T → List (List T) → Option β) :
    uTs P144 [.l x0, .l x1] (fun a _ => bodyK (mkK Try.prog A B [] [(4, M122_4 l122_4_0)] (Hn 122).pt []) Try.f122 a kk) = G122_0 A B l122_4_0 x0 x1 (fun x2 => kk (tB x2) []) := by kernel_rfl
theorem o122_0 {β : Type} (N : Nat) : Snd (β := β) Try.prog Hn 122 (M122_0 (F122_0 re rk N)) := by
  intro a h kk r ha hr
  unfold M122_0 at ha
  split at ha
  · rename_i hs
    cases ha
    have hk := via_pat hs ((e122_0 re rk (L122_4_0 re rk N N) _ _ kk).trans hr)
    exact fn_ok (f := 122) (fn := Try.f122) (H := Hn) (by kernel_rfl) (show SndAll Try.prog Hn [] from trivial) (spots := [.lp X122_4]) (by kernel_rfl) ⟨cut_lp (id := 4) i122_4 (ol122_4 N N) (fun s kk => by kernel_rfl), trivial⟩ hk
  · cases ha
def G104_0 {β : Type} (A : Pr) (B : Pk) (f122_0 : List R → List R → (KB β) → Option β) (x0 x1 x2 x3 : Int) (x4 : List R) (x5 x6 x7 x8 : Int) (x9 : List R) (k0 : KB β) : Option β :=
    match (A.ba (A.cm .eql x0 x5) (A.ba (A.cm .eql x1 x6) (A.ba (A.cm .eql x2 x7) (A.ba (A.cm .eql x3 x8) true)))) with
    | true => (f122_0 x4 x9 (fun xa =>
      k0 xa))
    | false => (k0 false)
def F104_0 {β : Type} (A : Pr) (B : Pk) (N : Nat) (x0 x1 x2 x3 : Int) (x4 : List R) (x5 x6 x7 x8 : Int) (x9 : List R) (k0 : KB β) : Option β :=
  G104_0 A B (F122_0 A B N) x0 x1 x2 x3 x4 x5 x6 x7 x8 x9 k0
def P145 : List PT := [(.r (.a [(.i .i64), (.i .i64), (.i .i64), (.i .i64), (.ro 1)])), (.r (.a [(.i .i64), (.i .i64), (.i .i64), (.i .i64), (.ro 1)]))]
def M104_0 {β : Type} (f104_0 : Int → Int → Int → Int → List R → Int → Int → Int → Int → List R → (KB β) → Option β) (a : List T) : Option ((T → List (List T) → Option β) → Option β) :=
  match gTs P145 a [] with
  | some [.i x0, .i x1, .i x2, .i x3, .l x4, .i x5, .i x6, .i x7, .i x8, .l x9] => some fun kk => f104_0 x0 x1 x2 x3 x4 x5 x6 x7 x8 x9 (fun xa => kk (tB xa) [])
  | _ => none
theorem e104_0 {β : Type} (A : Pr) (B : Pk) (f122_0 : List R → List R → (KB β) → Option β) (x0 x1 x2 x3 : Int) (x4 : List R) (x5 x6 x7 x8 : Int) (x9 : List R) (kk : T → List (List T) → Option β) :
    uTs P145 [.i x0, .i x1, .i x2, .i x3, .l x4, .i x5, .i x6, .i x7, .i x8, .l x9] (fun a _ => bodyK (mkK Try.prog A B [(122, M122_0 f122_0)] [] (Hn 104).pt []) Try.f104 a kk) = G104_0 A B f122_0 x0 x1 x2 x3 x4 x5 x6 x7 x8 x9 (fun xa => kk (tB xa) []) := by kernel_rfl
theorem o104_0 {β : Type} (N : Nat) : Snd (β := β) Try.prog Hn 104 (M104_0 (F104_0 re rk N)) := by
  intro a h kk r ha hr
  unfold M104_0 at ha
  split at ha
  · rename_i hs
    cases ha
    have hk := via_pat hs ((e104_0 re rk (F122_0 re rk N) _ _ _ _ _ _ _ _ _ _ kk).trans hr)
    exact fn_ok (f := 104) (fn := Try.f104) (H := Hn) (by kernel_rfl) (show SndAll Try.prog Hn [(122, M122_0 (F122_0 re rk N))] from ⟨o122_0 N, trivial⟩) (spots := []) (by kernel_rfl) trivial hk
  · cases ha
def GL71_5t8_0 {β : Type} (A : Pr) (B : Pk) (f104_0 : Int → Int → Int → Int → List R → Int → Int → Int → Int → List R → (KB β) → Option β) (l71_5t8_0 : (KB β) → (Option β) → Q54 β) (k0 : KB β) (k1 : Option β) (x0 x1 x2 x3 x4 x5 : Int) (x6 x7 : List R) (x8 x9 xa xb xc xd : Int) (xe xf : List R) (xg xh : Int) : Option β :=
    match (A.cm .lss xh xg) with
    | true => (match (A.ix xh (A.len x7)) with
      | some xi => (match (B.okE [(Sh.i .i64), (Sh.i .i64), (Sh.i .i64), (Sh.i .i64), (Sh.sl 1 (Sh.i .i64))] true x7 xi) with
        | true => (match (A.ix xh (A.len xf)) with
          | some xj => (match (B.okE [(Sh.i .i64), (Sh.i .i64), (Sh.i .i64), (Sh.i .i64), (Sh.sl 1 (Sh.i .i64))] true xf xj) with
            | true => (f104_0 (B.ci x7 xi 0) (B.ci x7 xi 1) (B.ci x7 xi 2) (B.ci x7 xi 3) (B.cl x7 xi 4) (B.ci xf xj 0) (B.ci xf xj 1) (B.ci xf xj 2) (B.ci xf xj 3) (B.cl xf xj 4) (fun xk =>
              match (A.bn xk) with
                | true => (k0 false)
                | false => (l71_5t8_0 k0 k1 x0 x1 x2 x3 x4 x5 x6 x7 x8 x9 xa xb xc xd xe xf xg (A.ar .add .i64 xh 1))))
            | false => none)
          | none => none)
        | false => none)
      | none => none)
    | false => k1
def L71_5t8_0 {β : Type} (A : Pr) (B : Pk) (N : Nat) : Nat → (KB β) → (Option β) → Q54 β
  | 0, _, _, _, _, _, _, _, _, _, _, _, _, _, _, _, _, _, _, _, _ => none
  | n + 1, k0, k1, x0, x1, x2, x3, x4, x5, x6, x7, x8, x9, xa, xb, xc, xd, xe, xf, xg, xh =>
    GL71_5t8_0 A B (F104_0 A B N) (L71_5t8_0 A B N n) k0 k1 x0 x1 x2 x3 x4 x5 x6 x7 x8 x9 xa xb xc xd xe xf xg xh
def P146 : List PT := [.us 4, pB, .us 43]
def S146 (x0 : Bool) : List T := (T.u :: T.u :: T.u :: T.u :: (tB x0) :: T.u :: T.u :: T.u :: T.u :: T.u :: T.u :: T.u :: T.u :: T.u :: T.u :: T.u :: T.u :: T.u :: T.u :: T.u :: T.u :: T.u :: T.u :: T.u :: T.u :: T.u :: T.u :: T.u :: T.u :: T.u :: T.u :: T.u :: T.u :: T.u :: T.u :: T.u :: T.u :: T.u :: T.u :: T.u :: T.u :: T.u :: T.u :: T.u :: T.u :: T.u :: T.u :: T.u :: [])
def P147 : List PT := [.us 2, (.bx [pI, pI, pI, pI, pI, pI, (.r (.ro 4)), (.r (.ro 5))]), (.bx [pI, pI, pI, pI, pI, pI, (.r (.ro 4)), (.r (.ro 5))]), .us 27, pI, pI, .us 15]
noncomputable def M71_5t8 {β : Type} (l71_5t8_0 : (KB β) → (Option β) → Q54 β) (s : List T) : Option ((Ex → List T → Option β) → Option β) :=
  match gTs P147 (clean ((Hn 71).lp 5).1 s) [] with
  | some [.i x0, .i x1, .i x2, .i x3, .i x4, .i x5, .l x6, .l x7, .i x8, .i x9, .i xa, .i xb, .i xc, .i xd, .l xe, .l xf, .i xg, .i xh] => some fun kk => l71_5t8_0 (fun xi => kk Ex.rt (S146 xi)) (kk (Ex.ex 0) (S106)) x0 x1 x2 x3 x4 x5 x6 x7 x8 x9 xa xb xc xd xe xf xg xh
  | _ => none
theorem e71_5t8_0 {β : Type} (A : Pr) (B : Pk) (f104_0 : Int → Int → Int → Int → List R → Int → Int → Int → Int → List R → (KB β) → Option β) (l71_5t8_0 : (KB β) → (Option β) → Q54 β) (x0 x1 x2 x3 x4 x5 : Int) (x6 x7 : List R) (x8 x9 xa xb xc xd : Int) (xe xf : List R) (xg xh : Int) (kk : Ex → List T → Option β) :
    uTs P147 [.i x0, .i x1, .i x2, .i x3, .i x4, .i x5, .l x6, .l x7, .i x8, .i x9, .i xa, .i xb, .i xc, .i xd, .l xe, .l xf, .i xg, .i xh] (fun s _ => evK (mkK Try.prog A B [(104, M104_0 f104_0)] [] (Hn 71).pt []) X71_5 s (fun e s' => match e with
      | .nm => (match M71_5t8 l71_5t8_0 s' with | some h => h kk | none => none)
      | .ex m => kk (.ex m) (clean ((Hn 71).lp (firstReg X71_5)).2 s')
      | .rt => kk .rt (clean ((Hn 71).lp (firstReg X71_5)).2 s'))) = GL71_5t8_0 A B f104_0 l71_5t8_0 (fun xi => kk Ex.rt (S146 xi)) (kk (Ex.ex 0) (S106)) x0 x1 x2 x3 x4 x5 x6 x7 x8 x9 xa xb xc xd xe xf xg xh := by kernel_rfl
theorem ol71_5t8 {β : Type} (N : Nat) : ∀ n, SndL (β := β) Try.prog Hn (Hn 71) X71_5 (M71_5t8 (L71_5t8_0 re rk N n))
  | 0 => by
    intro s h kk r ha hr
    unfold M71_5t8 at ha
    split at ha
    · cases ha; cases hr
    · cases ha
  | n + 1 => by
    have ih := ol71_5t8 (β := β) N n
    intro s h kk r ha hr
    unfold M71_5t8 at ha
    split at ha
    · rename_i hs
      cases ha
      have hk := via_pat hs ((e71_5t8_0 re rk (F104_0 re rk N) (L71_5t8_0 re rk N n) _ _ _ _ _ _ _ _ _ _ _ _ _ _ _ _ _ _ kk).trans hr)
      exact round_ok (show SndAll Try.prog Hn [(104, M104_0 (F104_0 re rk N))] from ⟨o104_0 N, trivial⟩) (spots := []) (by kernel_rfl) trivial ih (hd := clean ((Hn 71).lp 5).1 s) (by rw [i71_5]) hk
    · cases ha
def G71_8 {β : Type} (A : Pr) (B : Pk) (f35_3 : Int → Int → Int → Int → Int → Int → List R → Int → Int → Int → Int → Int → Int → List R → Int → Int → Int → Int → Int → Int → Int → Bool → Bool → Bool → Bool → Bool → Bool → Bool → Bool → Int → Int → Int → Int → Int → Int → Int → Int → Int → Bool → Bool → Bool → Bool → Bool → Bool → Bool → Bool → Int → Int → (Bool → Bool → Option β) → Option β) (l71_5t8_0 : (KB β) → (Option β) → Q54 β) (x0 x1 x2 x3 x4 x5 : Int) (x6 x7 : List R) (x8 x9 xa xb xc xd : Int) (xe xf : List R) (k0 : KB β) : Option β :=
    f35_3 x0 x1 x2 x3 x4 x5 x6 x8 x9 xa xb xc xd xe 0 0 0 0 0 0 0 false false false false false false false false 0 0 0 0 0 0 0 0 0 false false false false false false false false 0 0 (fun xg xh =>
    match (A.bn xg) with
      | true => (k0 false)
      | false => (match (A.cm .neq (A.on (A.len x7)) (A.on (A.len xf))) with
        | true => (k0 false)
        | false => (l71_5t8_0 (fun xi =>
          k0 xi) (k0 true) x0 x1 x2 x3 x4 x5 x6 x7 x8 x9 xa xb xc xd xe xf (A.on (A.len x7)) 0)))
def F71_8 {β : Type} (A : Pr) (B : Pk) (N : Nat) (x0 x1 x2 x3 x4 x5 : Int) (x6 x7 : List R) (x8 x9 xa xb xc xd : Int) (xe xf : List R) (k0 : KB β) : Option β :=
  G71_8 A B (F35_3 A B N) (L71_5t8_0 A B N N) x0 x1 x2 x3 x4 x5 x6 x7 x8 x9 xa xb xc xd xe xf k0
def P148 : List PT := [(.r (.a [(.i .i64), (.i .i64), (.i .i64), (.i .i64), (.i .i64), (.i .i64), (.ro 4), (.ro 5)])), (.r (.a [(.i .i64), (.i .i64), (.i .i64), (.i .i64), (.i .i64), (.i .i64), (.ro 4), (.ro 5)]))]
def M71_8 {β : Type} (f71_8 : Int → Int → Int → Int → Int → Int → List R → List R → Int → Int → Int → Int → Int → Int → List R → List R → (KB β) → Option β) (a : List T) : Option ((T → List (List T) → Option β) → Option β) :=
  match gTs P148 a [] with
  | some [.i x0, .i x1, .i x2, .i x3, .i x4, .i x5, .l x6, .l x7, .i x8, .i x9, .i xa, .i xb, .i xc, .i xd, .l xe, .l xf] => some fun kk => f71_8 x0 x1 x2 x3 x4 x5 x6 x7 x8 x9 xa xb xc xd xe xf (fun xg => kk (tB xg) [])
  | _ => none
theorem e71_8 {β : Type} (A : Pr) (B : Pk) (f35_3 : Int → Int → Int → Int → Int → Int → List R → Int → Int → Int → Int → Int → Int → List R → Int → Int → Int → Int → Int → Int → Int → Bool → Bool → Bool → Bool → Bool → Bool → Bool → Bool → Int → Int → Int → Int → Int → Int → Int → Int → Int → Bool → Bool → Bool → Bool → Bool → Bool → Bool → Bool → Int → Int → (Bool → Bool → Option β) → Option β) (l71_5t8_0 : (KB β) → (Option β) → Q54 β) (x0 x1 x2 x3 x4 x5 : Int) (x6 x7 : List R) (x8 x9 xa xb xc xd : Int) (xe xf : List R) (kk : T → List (List T) → Option β) :
    uTs P148 [.i x0, .i x1, .i x2, .i x3, .i x4, .i x5, .l x6, .l x7, .i x8, .i x9, .i xa, .i xb, .i xc, .i xd, .l xe, .l xf] (fun a _ => bodyK (mkK Try.prog A B [(35, M35_3 f35_3)] [(5, M71_5t8 l71_5t8_0)] (Hn 71).pt []) Try.f71 a kk) = G71_8 A B f35_3 l71_5t8_0 x0 x1 x2 x3 x4 x5 x6 x7 x8 x9 xa xb xc xd xe xf (fun xg => kk (tB xg) []) := by kernel_rfl
theorem o71_8 {β : Type} (N : Nat) : Snd (β := β) Try.prog Hn 71 (M71_8 (F71_8 re rk N)) := by
  intro a h kk r ha hr
  unfold M71_8 at ha
  split at ha
  · rename_i hs
    cases ha
    have hk := via_pat hs ((e71_8 re rk (F35_3 re rk N) (L71_5t8_0 re rk N N) _ _ _ _ _ _ _ _ _ _ _ _ _ _ _ _ kk).trans hr)
    exact fn_ok (f := 71) (fn := Try.f71) (H := Hn) (by kernel_rfl) (show SndAll Try.prog Hn [(35, M35_3 (F35_3 re rk N))] from ⟨o35_3 N, trivial⟩) (spots := [.lp X71_5]) (by kernel_rfl) ⟨cut_lp (id := 5) i71_5 (ol71_5t8 N N) (fun s kk => by kernel_rfl), trivial⟩ hk
  · cases ha
def G38_8 {β : Type} (A : Pr) (B : Pk) (f71_8 : Int → Int → Int → Int → Int → Int → List R → List R → Int → Int → Int → Int → Int → Int → List R → List R → (KB β) → Option β) (x0 x1 x2 x3 x4 x5 : Int) (x6 x7 : List R) (x8 x9 xa xb xc xd xe : Int) (xf xg : List R) (xh : Int) (k0 : KB β) : Option β :=
    match (A.cm .eql x8 xh) with
    | true => (f71_8 x0 x1 x2 x3 x4 x5 x6 x7 x9 xa xb xc xd xe xf xg (fun xi =>
      k0 xi))
    | false => (k0 false)
def F38_8 {β : Type} (A : Pr) (B : Pk) (N : Nat) (x0 x1 x2 x3 x4 x5 : Int) (x6 x7 : List R) (x8 x9 xa xb xc xd xe : Int) (xf xg : List R) (xh : Int) (k0 : KB β) : Option β :=
  G38_8 A B (F71_8 A B N) x0 x1 x2 x3 x4 x5 x6 x7 x8 x9 xa xb xc xd xe xf xg xh k0
def P149 : List PT := [(.r (.a [(.i .i64), (.i .i64), (.i .i64), (.i .i64), (.i .i64), (.i .i64), (.ro 4), (.ro 5)])), pI, (.r (.a [(.i .i64), (.i .i64), (.i .i64), (.i .i64), (.i .i64), (.i .i64), (.ro 4), (.ro 5)])), pI]
def M38_8 {β : Type} (f38_8 : Int → Int → Int → Int → Int → Int → List R → List R → Int → Int → Int → Int → Int → Int → Int → List R → List R → Int → (KB β) → Option β) (a : List T) : Option ((T → List (List T) → Option β) → Option β) :=
  match gTs P149 a [] with
  | some [.i x0, .i x1, .i x2, .i x3, .i x4, .i x5, .l x6, .l x7, .i x8, .i x9, .i xa, .i xb, .i xc, .i xd, .i xe, .l xf, .l xg, .i xh] => some fun kk => f38_8 x0 x1 x2 x3 x4 x5 x6 x7 x8 x9 xa xb xc xd xe xf xg xh (fun xi => kk (tB xi) [])
  | _ => none
theorem e38_8 {β : Type} (A : Pr) (B : Pk) (f71_8 : Int → Int → Int → Int → Int → Int → List R → List R → Int → Int → Int → Int → Int → Int → List R → List R → (KB β) → Option β) (x0 x1 x2 x3 x4 x5 : Int) (x6 x7 : List R) (x8 x9 xa xb xc xd xe : Int) (xf xg : List R) (xh : Int) (kk : T → List (List T) → Option β) :
    uTs P149 [.i x0, .i x1, .i x2, .i x3, .i x4, .i x5, .l x6, .l x7, .i x8, .i x9, .i xa, .i xb, .i xc, .i xd, .i xe, .l xf, .l xg, .i xh] (fun a _ => bodyK (mkK Try.prog A B [(71, M71_8 f71_8)] [] (Hn 38).pt []) Try.f38 a kk) = G38_8 A B f71_8 x0 x1 x2 x3 x4 x5 x6 x7 x8 x9 xa xb xc xd xe xf xg xh (fun xi => kk (tB xi) []) := by kernel_rfl
theorem o38_8 {β : Type} (N : Nat) : Snd (β := β) Try.prog Hn 38 (M38_8 (F38_8 re rk N)) := by
  intro a h kk r ha hr
  unfold M38_8 at ha
  split at ha
  · rename_i hs
    cases ha
    have hk := via_pat hs ((e38_8 re rk (F71_8 re rk N) _ _ _ _ _ _ _ _ _ _ _ _ _ _ _ _ _ _ kk).trans hr)
    exact fn_ok (f := 38) (fn := Try.f38) (H := Hn) (by kernel_rfl) (show SndAll Try.prog Hn [(71, M71_8 (F71_8 re rk N))] from ⟨o71_8 N, trivial⟩) (spots := []) (by kernel_rfl) trivial hk
  · cases ha
def G12_0 {β : Type} (A : Pr) (B : Pk) (f22_0 : Int → Int → Int → Int → Int → Int → List R → List R → Int → Int → Int → Int → Int → Int → Int → Bool → Bool → Bool → Bool → Bool → Bool → Bool → Bool → Int → Int → (KB β) → Option β) (f32_0 : (KB β) → Option β) (f36_0 : Int → Int → Int → Int → Int → Int → List R → List R → Int → Int → Int → Int → (Int → Int → Int → Int → Int → Int → Int → Option β) → (Int → Int → Int → Int → Int → Int → List R → Int → Option β) → (Q25 β) → Option β) (f37_0 : Int → Int → Int → Int → Int → Int → List R → List R → Int → Int → Int → Int → (Int → Int → Int → Int → Int → Int → Int → Option β) → (Int → Int → Int → Int → Int → Int → List R → Int → Option β) → (Q25 β) → Option β) (f38_0 : Int → Int → Int → Int → Int → Int → Int → Int → Int → Int → Int → Int → Int → Int → (KB β) → Option β) (f38_1 : Int → Int → Int → Int → Int → Int → Int → Int → Int → Int → Int → Int → Int → List R → Int → (KB β) → Option β) (f38_2 : Int → Int → Int → Int → Int → Int → Int → Int → Int → Int → Int → Int → Int → List R → List R → Int → (KB β) → Option β) (f38_3 : Int → Int → Int → Int → Int → Int → List R → Int → Int → Int → Int → Int → Int → Int → Int → (KB β) → Option β) (f38_4 : Int → Int → Int → Int → Int → Int → List R → Int → Int → Int → Int → Int → Int → Int → List R → Int → (KB β) → Option β) (f38_5 : Int → Int → Int → Int → Int → Int → List R → Int → Int → Int → Int → Int → Int → Int → List R → List R → Int → (KB β) → Option β) (f38_6 : Int → Int → Int → Int → Int → Int → List R → List R → Int → Int → Int → Int → Int → Int → Int → Int → (KB β) → Option β) (f38_7 : Int → Int → Int → Int → Int → Int → List R → List R → Int → Int → Int → Int → Int → Int → Int → List R → Int → (KB β) → Option β) (f38_8 : Int → Int → Int → Int → Int → Int → List R → List R → Int → Int → Int → Int → Int → Int → Int → List R → List R → Int → (KB β) → Option β) (x0 x1 x2 x3 x4 x5 : Int) (x6 x7 : List R) (x8 x9 xa xb : Int) (k0 : KB β) : Option β :=
    f22_0 x0 x1 x2 x3 x4 x5 x6 x7 0 0 0 0 0 0 0 false false false false false false false false 0 0 (fun xc =>
    match (A.bn xc) with
      | true => (f32_0 (fun xd =>
        k0 xd))
      | false => (f36_0 x0 x1 x2 x3 x4 x5 x6 x7 x8 x9 xa xb (fun xe xf xg xh xi xj xk =>
        f37_0 x0 x1 x2 x3 x4 x5 x6 x7 x8 x9 xa xb (fun xl xm xn xo xp xq xr =>
          f38_0 xe xf xg xh xi xj xk xl xm xn xo xp xq xr (fun xs =>
            match xs with
              | true => (f32_0 (fun xt =>
                k0 xt))
              | false => (k0 false))) (fun xu xv xw xx xy xz x10 x11 =>
          f38_1 xe xf xg xh xi xj xk xu xv xw xx xy xz x10 x11 (fun x12 =>
            match x12 with
              | true => (f32_0 (fun x13 =>
                k0 x13))
              | false => (k0 false))) (fun x14 x15 x16 x17 x18 x19 x1a x1b x1c =>
          f38_2 xe xf xg xh xi xj xk x14 x15 x16 x17 x18 x19 x1a x1b x1c (fun x1d =>
            match x1d with
              | true => (f32_0 (fun x1e =>
                k0 x1e))
              | false => (k0 false)))) (fun x1f x1g x1h x1i x1j x1k x1l x1m =>
        f37_0 x0 x1 x2 x3 x4 x5 x6 x7 x8 x9 xa xb (fun x1n x1o x1p x1q x1r x1s x1t =>
          f38_3 x1f x1g x1h x1i x1j x1k x1l x1m x1n x1o x1p x1q x1r x1s x1t (fun x1u =>
            match x1u with
              | true => (f32_0 (fun x1v =>
                k0 x1v))
              | false => (k0 false))) (fun x1w x1x x1y x1z x20 x21 x22 x23 =>
          f38_4 x1f x1g x1h x1i x1j x1k x1l x1m x1w x1x x1y x1z x20 x21 x22 x23 (fun x24 =>
            match x24 with
              | true => (f32_0 (fun x25 =>
                k0 x25))
              | false => (k0 false))) (fun x26 x27 x28 x29 x2a x2b x2c x2d x2e =>
          f38_5 x1f x1g x1h x1i x1j x1k x1l x1m x26 x27 x28 x29 x2a x2b x2c x2d x2e (fun x2f =>
            match x2f with
              | true => (f32_0 (fun x2g =>
                k0 x2g))
              | false => (k0 false)))) (fun x2h x2i x2j x2k x2l x2m x2n x2o x2p =>
        f37_0 x0 x1 x2 x3 x4 x5 x6 x7 x8 x9 xa xb (fun x2q x2r x2s x2t x2u x2v x2w =>
          f38_6 x2h x2i x2j x2k x2l x2m x2n x2o x2p x2q x2r x2s x2t x2u x2v x2w (fun x2x =>
            match x2x with
              | true => (f32_0 (fun x2y =>
                k0 x2y))
              | false => (k0 false))) (fun x2z x30 x31 x32 x33 x34 x35 x36 =>
          f38_7 x2h x2i x2j x2k x2l x2m x2n x2o x2p x2z x30 x31 x32 x33 x34 x35 x36 (fun x37 =>
            match x37 with
              | true => (f32_0 (fun x38 =>
                k0 x38))
              | false => (k0 false))) (fun x39 x3a x3b x3c x3d x3e x3f x3g x3h =>
          f38_8 x2h x2i x2j x2k x2l x2m x2n x2o x2p x39 x3a x3b x3c x3d x3e x3f x3g x3h (fun x3i =>
            match x3i with
              | true => (f32_0 (fun x3j =>
                k0 x3j))
              | false => (k0 false))))))
def F12_0 {β : Type} (A : Pr) (B : Pk) (N : Nat) (x0 x1 x2 x3 x4 x5 : Int) (x6 x7 : List R) (x8 x9 xa xb : Int) (k0 : KB β) : Option β :=
  G12_0 A B (F22_0 A B N) (F32_0 A B N) (F36_0 A B N) (F37_0 A B N) (F38_0 A B N) (F38_1 A B N) (F38_2 A B N) (F38_3 A B N) (F38_4 A B N) (F38_5 A B N) (F38_6 A B N) (F38_7 A B N) (F38_8 A B N) x0 x1 x2 x3 x4 x5 x6 x7 x8 x9 xa xb k0
def M12_0 {β : Type} (f12_0 : Int → Int → Int → Int → Int → Int → List R → List R → Int → Int → Int → Int → (KB β) → Option β) (a : List T) : Option ((T → List (List T) → Option β) → Option β) :=
  match gTs P76 a [] with
  | some [.i x0, .i x1, .i x2, .i x3, .i x4, .i x5, .l x6, .l x7, .i x8, .i x9, .i xa, .i xb] => some fun kk => f12_0 x0 x1 x2 x3 x4 x5 x6 x7 x8 x9 xa xb (fun xc => kk (tB xc) [])
  | _ => none
theorem e12_0 {β : Type} (A : Pr) (B : Pk) (f22_0 : Int → Int → Int → Int → Int → Int → List R → List R → Int → Int → Int → Int → Int → Int → Int → Bool → Bool → Bool → Bool → Bool → Bool → Bool → Bool → Int → Int → (KB β) → Option β) (f32_0 : (KB β) → Option β) (f36_0 : Int → Int → Int → Int → Int → Int → List R → List R → Int → Int → Int → Int → (Int → Int → Int → Int → Int → Int → Int → Option β) → (Int → Int → Int → Int → Int → Int → List R → Int → Option β) → (Q25 β) → Option β) (f37_0 : Int → Int → Int → Int → Int → Int → List R → List R → Int → Int → Int → Int → (Int → Int → Int → Int → Int → Int → Int → Option β) → (Int → Int → Int → Int → Int → Int → List R → Int → Option β) → (Q25 β) → Option β) (f38_0 : Int → Int → Int → Int → Int → Int → Int → Int → Int → Int → Int → Int → Int → Int → (KB β) → Option β) (f38_1 : Int → Int → Int → Int → Int → Int → Int → Int → Int → Int → Int → Int → Int → List R → Int → (KB β) → Option β) (f38_2 : Int → Int → Int → Int → Int → Int → Int → Int → Int → Int → Int → Int → Int → List R → List R → Int → (KB β) → Option β) (f38_3 : Int → Int → Int → Int → Int → Int → List R → Int → Int → Int → Int → Int → Int → Int → Int → (KB β) → Option β) (f38_4 : Int → Int → Int → Int → Int → Int → List R → Int → Int → Int → Int → Int → Int → Int → List R → Int → (KB β) → Option β) (f38_5 : Int → Int → Int → Int → Int → Int → List R → Int → Int → Int → Int → Int → Int → Int → List R → List R → Int → (KB β) → Option β) (f38_6 : Int → Int → Int → Int → Int → Int → List R → List R → Int → Int → Int → Int → Int → Int → Int → Int → (KB β) → Option β) (f38_7 : Int → Int → Int → Int → Int → Int → List R → List R → Int → Int → Int → Int → Int → Int → Int → List R → Int → (KB β) → Option β) (f38_8 : Int → Int → Int → Int → Int → Int → List R → List R → Int → Int → Int → Int → Int → Int → Int → List R → List R → Int → (KB β) → Option β) (x0 x1 x2 x3 x4 x5 : Int) (x6 x7 : List R) (x8 x9 xa xb : Int) (kk : T → List (List T) → Option β) :
    uTs P76 [.i x0, .i x1, .i x2, .i x3, .i x4, .i x5, .l x6, .l x7, .i x8, .i x9, .i xa, .i xb] (fun a _ => bodyK (mkK Try.prog A B [(22, M22_0 f22_0), (32, M32_0 f32_0), (36, M36_0 f36_0), (37, M37_0 f37_0), (38, M38_0 f38_0), (38, M38_1 f38_1), (38, M38_2 f38_2), (38, M38_3 f38_3), (38, M38_4 f38_4), (38, M38_5 f38_5), (38, M38_6 f38_6), (38, M38_7 f38_7), (38, M38_8 f38_8)] [] (Hn 12).pt []) Try.f12 a kk) = G12_0 A B f22_0 f32_0 f36_0 f37_0 f38_0 f38_1 f38_2 f38_3 f38_4 f38_5 f38_6 f38_7 f38_8 x0 x1 x2 x3 x4 x5 x6 x7 x8 x9 xa xb (fun xc => kk (tB xc) []) := by kernel_rfl
theorem o12_0 {β : Type} (N : Nat) : Snd (β := β) Try.prog Hn 12 (M12_0 (F12_0 re rk N)) := by
  intro a h kk r ha hr
  unfold M12_0 at ha
  split at ha
  · rename_i hs
    cases ha
    have hk := via_pat hs ((e12_0 re rk (F22_0 re rk N) (F32_0 re rk N) (F36_0 re rk N) (F37_0 re rk N) (F38_0 re rk N) (F38_1 re rk N) (F38_2 re rk N) (F38_3 re rk N) (F38_4 re rk N) (F38_5 re rk N) (F38_6 re rk N) (F38_7 re rk N) (F38_8 re rk N) _ _ _ _ _ _ _ _ _ _ _ _ kk).trans hr)
    exact fn_ok (f := 12) (fn := Try.f12) (H := Hn) (by kernel_rfl) (show SndAll Try.prog Hn [(22, M22_0 (F22_0 re rk N)), (32, M32_0 (F32_0 re rk N)), (36, M36_0 (F36_0 re rk N)), (37, M37_0 (F37_0 re rk N)), (38, M38_0 (F38_0 re rk N)), (38, M38_1 (F38_1 re rk N)), (38, M38_2 (F38_2 re rk N)), (38, M38_3 (F38_3 re rk N)), (38, M38_4 (F38_4 re rk N)), (38, M38_5 (F38_5 re rk N)), (38, M38_6 (F38_6 re rk N)), (38, M38_7 (F38_7 re rk N)), (38, M38_8 (F38_8 re rk N))] from ⟨o22_0 N, o32_0 N, o36_0 N, o37_0 N, o38_0 N, o38_1 N, o38_2 N, o38_3 N, o38_4 N, o38_5 N, o38_6 N, o38_7 N, o38_8 N, trivial⟩) (spots := []) (by kernel_rfl) trivial hk
  · cases ha
end
