/-
  The functions' trees, printed by a program of ours.
-/
import Derived.Test.YtcapaihnachkhaaK12a
set_option linter.unusedVariables false
set_option maxRecDepth 100000
namespace Go.Proofs.Ytcapaihnachkhaa
open Go.Os
section
def L96_3_0 {β : Type} (A : Pr) (B : Pk) (N : Nat) : Nat → (Bool → Int → Option β) → (KI β) → Q13 β
  | 0, _, _, _, _, _, _, _, _, _, _, _, _, _, _, _, _, _, _, _, _, _, _, _, _, _, _, _, _ => none
  | n + 1, k0, k1, x0, x1, x2, x3, x4, x5, x6, x7, x8, x9, xa, xb, xc, xd, xe, xf, xg, xh, xi, xj, xk, xl, xm, xn, xo, xp =>
    GL96_3_0 A B (F47_0 A B N) (L96_7_0 A B N N) (L96_3_0 A B N n) k0 k1 x0 x1 x2 x3 x4 x5 x6 x7 x8 x9 xa xb xc xd xe xf xg xh xi xj xk xl xm xn xo xp
def P48 : List PT := [.us 6, pB, pI, .us 84]
def S48 (x0 : Bool) (x1 : Int) : List T := (T.u :: T.u :: T.u :: T.u :: T.u :: T.u :: (tB x0) :: (tI x1) :: T.u :: T.u :: T.u :: T.u :: T.u :: T.u :: T.u :: T.u :: T.u :: T.u :: T.u :: T.u :: T.u :: T.u :: T.u :: T.u :: T.u :: T.u :: T.u :: T.u :: T.u :: T.u :: T.u :: T.u :: T.u :: T.u :: T.u :: T.u :: T.u :: T.u :: T.u :: T.u :: T.u :: T.u :: T.u :: T.u :: T.u :: T.u :: T.u :: T.u :: T.u :: T.u :: T.u :: T.u :: T.u :: T.u :: T.u :: T.u :: T.u :: T.u :: T.u :: T.u :: T.u :: T.u :: T.u :: T.u :: T.u :: T.u :: T.u :: T.u :: T.u :: T.u :: T.u :: T.u :: T.u :: T.u :: T.u :: T.u :: T.u :: T.u :: T.u :: T.u :: T.u :: T.u :: T.u :: T.u :: T.u :: T.u :: T.u :: T.u :: T.u :: T.u :: T.u :: T.u :: [])
def P49 : List PT := [.us 7, pI, .us 84]
def S49 (x0 : Int) : List T := (T.u :: T.u :: T.u :: T.u :: T.u :: T.u :: T.u :: (tI x0) :: T.u :: T.u :: T.u :: T.u :: T.u :: T.u :: T.u :: T.u :: T.u :: T.u :: T.u :: T.u :: T.u :: T.u :: T.u :: T.u :: T.u :: T.u :: T.u :: T.u :: T.u :: T.u :: T.u :: T.u :: T.u :: T.u :: T.u :: T.u :: T.u :: T.u :: T.u :: T.u :: T.u :: T.u :: T.u :: T.u :: T.u :: T.u :: T.u :: T.u :: T.u :: T.u :: T.u :: T.u :: T.u :: T.u :: T.u :: T.u :: T.u :: T.u :: T.u :: T.u :: T.u :: T.u :: T.u :: T.u :: T.u :: T.u :: T.u :: T.u :: T.u :: T.u :: T.u :: T.u :: T.u :: T.u :: T.u :: T.u :: T.u :: T.u :: T.u :: T.u :: T.u :: T.u :: T.u :: T.u :: T.u :: T.u :: T.u :: T.u :: T.u :: T.u :: T.u :: T.u :: [])
noncomputable def M96_3 {β : Type} (l96_3_0 : (Bool → Int → Option β) → (KI β) → Q13 β) (s : List T) : Option ((Ex → List T → Option β) → Option β) :=
  match gTs P47 (clean ((Hn 96).lp 3).1 s) [] with
  | some [.i x0, .i x1, .i x2, .i x3, .i x4, .i x5, .i x6, .b x7, .b x8, .b x9, .b xa, .b xb, .b xc, .b xd, .b xe, .l xf, .i xg, .i xh, .i xi, .i xj, .i xk, .i xl, .i xm, .l xn, .i xo, .i xp] => some fun kk => l96_3_0 (fun xq xr => kk Ex.rt (S48 xq xr)) (fun xs => kk (Ex.ex 0) (S49 xs)) x0 x1 x2 x3 x4 x5 x6 x7 x8 x9 xa xb xc xd xe xf xg xh xi xj xk xl xm xn xo xp
  | _ => none
theorem e96_3_0 {β : Type} (A : Pr) (B : Pk) (f47_0 : Int → Int → Int → Int → Int → Int → (K4 β) → Option β) (l96_7_0 : (Q12 β) → (Q13 β) → Q10 β) (l96_3_0 : (Bool → Int → Option β) → (KI β) → Q13 β) (x0 x1 x2 x3 x4 x5 x6 : Int) (x7 x8 x9 xa xb xc xd xe : Bool) (xf : List R) (xg xh xi xj xk xl xm : Int) (xn : List R) (xo xp : Int) (kk : Ex → List T → Option β) :
    uTs P47 [.i x0, .i x1, .i x2, .i x3, .i x4, .i x5, .i x6, .b x7, .b x8, .b x9, .b xa, .b xb, .b xc, .b xd, .b xe, .l xf, .i xg, .i xh, .i xi, .i xj, .i xk, .i xl, .i xm, .l xn, .i xo, .i xp] (fun s _ => evK (mkK Try.prog A B [(47, M47_0 f47_0)] [(7, M96_7 l96_7_0)] (Hn 96).pt []) X96_3 s (fun e s' => match e with
      | .nm => (match M96_3 l96_3_0 s' with | some h => h kk | none => none)
      | .ex m => kk (.ex m) (clean ((Hn 96).lp (firstReg X96_3)).2 s')
      | .rt => kk .rt (clean ((Hn 96).lp (firstReg X96_3)).2 s'))) = GL96_3_0 A B f47_0 l96_7_0 l96_3_0 (fun xq xr => kk Ex.rt (S48 xq xr)) (fun xs => kk (Ex.ex 0) (S49 xs)) x0 x1 x2 x3 x4 x5 x6 x7 x8 x9 xa xb xc xd xe xf xg xh xi xj xk xl xm xn xo xp := by kernel_rfl
theorem ol96_3 {β : Type} (N : Nat) : ∀ n, SndL (β := β) Try.prog Hn (Hn 96) X96_3 (M96_3 (L96_3_0 re rk N n))
  | 0 => by
    intro s h kk r ha hr
    unfold M96_3 at ha
    split at ha
    · cases ha; cases hr
    · cases ha
  | n + 1 => by
    have ih := ol96_3 (β := β) N n
    intro s h kk r ha hr
    unfold M96_3 at ha
    split at ha
    · rename_i hs
      cases ha
      have hk := via_pat hs ((e96_3_0 re rk (F47_0 re rk N) (L96_7_0 re rk N N) (L96_3_0 re rk N n) _ _ _ _ _ _ _ _ _ _ _ _ _ _ _ _ _ _ _ _ _ _ _ _ _ _ kk).trans hr)
      exact round_ok (show SndAll Try.prog Hn [(47, M47_0 (F47_0 re rk N))] from ⟨o47_0 N, trivial⟩) (spots := [.lp X96_7]) (by kernel_rfl) ⟨cut_lp (id := 7) i96_7 (ol96_7 N N) (fun s kk => by kernel_rfl), trivial⟩ ih (hd := clean ((Hn 96).lp 3).1 s) (by rw [i96_3]) hk
    · cases ha
def G96_0 {β : Type} (A : Pr) (B : Pk) (l96_3_0 : (Bool → Int → Option β) → (KI β) → Q13 β) (x0 x1 x2 x3 x4 x5 : Int) (x6 : List R) (x7 x8 x9 xa xb xc xd : Int) (xe xf xg xh xi xj xk xl : Bool) (xm : List R) (xn xo xp xq xr xs : Int) (k0 : KB β) : Option β :=
    l96_3_0 (fun xt xu =>
    k0 xt) (fun xv =>
    k0 (A.cm .leq xv 65536)) x7 x8 x9 xa xb xc xd xe xf xg xh xi xj xk xl xm xn xo xp xq xr xs 0 x6 (A.on (A.len x6)) 0
def F96_0 {β : Type} (A : Pr) (B : Pk) (N : Nat) (x0 x1 x2 x3 x4 x5 : Int) (x6 : List R) (x7 x8 x9 xa xb xc xd : Int) (xe xf xg xh xi xj xk xl : Bool) (xm : List R) (xn xo xp xq xr xs : Int) (k0 : KB β) : Option β :=
  G96_0 A B (L96_3_0 A B N N) x0 x1 x2 x3 x4 x5 x6 x7 x8 x9 xa xb xc xd xe xf xg xh xi xj xk xl xm xn xo xp xq xr xs k0
def P50 : List PT := [(.r (.a [(.i .i64), (.i .i64), (.i .i64), (.i .i64), (.i .i64), (.i .i64), (.ro 4)])), (.r (.a [(.i .i64), (.i .i64), (.i .i64), (.i .i64), (.i .i64), .sn, (.i .i64), (.i .i64), .b, .b, .b, .b, .b, .b, .b, .b, (.ro 1), (.i .i64), (.i .i64)])), (.r (.a [(.i .i64), (.i .i64), (.i .i64), (.i .i64)]))]
def M96_0 {β : Type} (f96_0 : Int → Int → Int → Int → Int → Int → List R → Int → Int → Int → Int → Int → Int → Int → Bool → Bool → Bool → Bool → Bool → Bool → Bool → Bool → List R → Int → Int → Int → Int → Int → Int → (KB β) → Option β) (a : List T) : Option ((T → List (List T) → Option β) → Option β) :=
  match gTs P50 a [] with
  | some [.i x0, .i x1, .i x2, .i x3, .i x4, .i x5, .l x6, .i x7, .i x8, .i x9, .i xa, .i xb, .i xc, .i xd, .b xe, .b xf, .b xg, .b xh, .b xi, .b xj, .b xk, .b xl, .l xm, .i xn, .i xo, .i xp, .i xq, .i xr, .i xs] => some fun kk => f96_0 x0 x1 x2 x3 x4 x5 x6 x7 x8 x9 xa xb xc xd xe xf xg xh xi xj xk xl xm xn xo xp xq xr xs (fun xt => kk (tB xt) [])
  | _ => none
theorem e96_0 {β : Type} (A : Pr) (B : Pk) (l96_3_0 : (Bool → Int → Option β) → (KI β) → Q13 β) (x0 x1 x2 x3 x4 x5 : Int) (x6 : List R) (x7 x8 x9 xa xb xc xd : Int) (xe xf xg xh xi xj xk xl : Bool) (xm : List R) (xn xo xp xq xr xs : Int) (kk : T → List (List T) → Option β) :
    uTs P50 [.i x0, .i x1, .i x2, .i x3, .i x4, .i x5, .l x6, .i x7, .i x8, .i x9, .i xa, .i xb, .i xc, .i xd, .b xe, .b xf, .b xg, .b xh, .b xi, .b xj, .b xk, .b xl, .l xm, .i xn, .i xo, .i xp, .i xq, .i xr, .i xs] (fun a _ => bodyK (mkK Try.prog A B [] [(3, M96_3 l96_3_0)] (Hn 96).pt []) Try.f96 a kk) = G96_0 A B l96_3_0 x0 x1 x2 x3 x4 x5 x6 x7 x8 x9 xa xb xc xd xe xf xg xh xi xj xk xl xm xn xo xp xq xr xs (fun xt => kk (tB xt) []) := by kernel_rfl
theorem o96_0 {β : Type} (N : Nat) : Snd (β := β) Try.prog Hn 96 (M96_0 (F96_0 re rk N)) := by
  intro a h kk r ha hr
  unfold M96_0 at ha
  split at ha
  · rename_i hs
    cases ha
    have hk := via_pat hs ((e96_0 re rk (L96_3_0 re rk N N) _ _ _ _ _ _ _ _ _ _ _ _ _ _ _ _ _ _ _ _ _ _ _ _ _ _ _ _ _ kk).trans hr)
    exact fn_ok (f := 96) (fn := Try.f96) (H := Hn) (by kernel_rfl) (show SndAll Try.prog Hn [] from trivial) (spots := [.lp X96_3]) (by kernel_rfl) ⟨cut_lp (id := 3) i96_3 (ol96_3 N N) (fun s kk => by kernel_rfl), trivial⟩ hk
  · cases ha
noncomputable def X59_9 : Code := atF Try.f59 [true, true, true, true, false, true, false, false]
theorem i59_9 : firstReg X59_9 = 9 := by kernel_rfl
def GL59_9_0 {β : Type} (A : Pr) (B : Pk) (f96_0 : Int → Int → Int → Int → Int → Int → List R → Int → Int → Int → Int → Int → Int → Int → Bool → Bool → Bool → Bool → Bool → Bool → Bool → Bool → List R → Int → Int → Int → Int → Int → Int → (KB β) → Option β) (l59_9_0 : (KI β) → (Option β) → Q14 β) (k0 : KI β) (k1 : Option β) (x0 x1 x2 x3 x4 x5 : Int) (x6 : List R) (x7 x8 x9 xa xb xc xd : Int) (xe xf xg xh xi xj xk xl : Bool) (xm : List R) (xn xo : Int) (xp : List R) (xq xr : Int) : Option β :=
    match (A.cm .lss xr xq) with
    | true => (match (A.ix xr (A.len xp)) with
      | some xs => (match (B.okC [(Sh.i .i64), (Sh.i .i64), (Sh.i .i64), (Sh.i .i64)] xp xs 0) with
        | true => (f96_0 x0 x1 x2 x3 x4 x5 x6 x7 x8 x9 xa xb xc xd xe xf xg xh xi xj xk xl xm xn xo (B.ci xp xs 0) (B.ci xp xs 1) (B.ci xp xs 2) (B.ci xp xs 3) (fun xt =>
          match (A.bn xt) with
            | true => (k0 5)
            | false => (l59_9_0 k0 k1 x0 x1 x2 x3 x4 x5 x6 x7 x8 x9 xa xb xc xd xe xf xg xh xi xj xk xl xm xn xo xp xq (A.ar .add .i64 xr 1))))
        | false => none)
      | none => none)
    | false => k1
def L59_9_0 {β : Type} (A : Pr) (B : Pk) (N : Nat) : Nat → (KI β) → (Option β) → Q14 β
  | 0, _, _, _, _, _, _, _, _, _, _, _, _, _, _, _, _, _, _, _, _, _, _, _, _, _, _, _, _, _, _ => none
  | n + 1, k0, k1, x0, x1, x2, x3, x4, x5, x6, x7, x8, x9, xa, xb, xc, xd, xe, xf, xg, xh, xi, xj, xk, xl, xm, xn, xo, xp, xq, xr =>
    GL59_9_0 A B (F96_0 A B N) (L59_9_0 A B N n) k0 k1 x0 x1 x2 x3 x4 x5 x6 x7 x8 x9 xa xb xc xd xe xf xg xh xi xj xk xl xm xn xo xp xq xr
def P51 : List PT := [.us 4, pI, .us 49]
def S51 (x0 : Int) : List T := (T.u :: T.u :: T.u :: T.u :: (tI x0) :: T.u :: T.u :: T.u :: T.u :: T.u :: T.u :: T.u :: T.u :: T.u :: T.u :: T.u :: T.u :: T.u :: T.u :: T.u :: T.u :: T.u :: T.u :: T.u :: T.u :: T.u :: T.u :: T.u :: T.u :: T.u :: T.u :: T.u :: T.u :: T.u :: T.u :: T.u :: T.u :: T.u :: T.u :: T.u :: T.u :: T.u :: T.u :: T.u :: T.u :: T.u :: T.u :: T.u :: T.u :: T.u :: T.u :: T.u :: T.u :: T.u :: [])
def P52 : List PT := [.us 54]
def S52  : List T := (T.u :: T.u :: T.u :: T.u :: T.u :: T.u :: T.u :: T.u :: T.u :: T.u :: T.u :: T.u :: T.u :: T.u :: T.u :: T.u :: T.u :: T.u :: T.u :: T.u :: T.u :: T.u :: T.u :: T.u :: T.u :: T.u :: T.u :: T.u :: T.u :: T.u :: T.u :: T.u :: T.u :: T.u :: T.u :: T.u :: T.u :: T.u :: T.u :: T.u :: T.u :: T.u :: T.u :: T.u :: T.u :: T.u :: T.u :: T.u :: T.u :: T.u :: T.u :: T.u :: T.u :: T.u :: [])
def P53 : List PT := [.us 2, (.bx [pI, pI, pI, pI, pI, pI, (.r (.ro 4))]), (.bx [pI, pI, pI, pI, pI, (.r .sn), pI, pI, pB, pB, pB, pB, pB, pB, pB, pB, (.r (.ro 1)), pI, pI]), .us 38, (.own true 4), pI, pI, .us 9]
noncomputable def M59_9 {β : Type} (l59_9_0 : (KI β) → (Option β) → Q14 β) (s : List T) : Option ((Ex → List T → Option β) → Option β) :=
  match gTs P53 (clean ((Hn 59).lp 9).1 s) [] with
  | some [.i x0, .i x1, .i x2, .i x3, .i x4, .i x5, .l x6, .i x7, .i x8, .i x9, .i xa, .i xb, .i xc, .i xd, .b xe, .b xf, .b xg, .b xh, .b xi, .b xj, .b xk, .b xl, .l xm, .i xn, .i xo, .l xp, .i xq, .i xr] => some fun kk => l59_9_0 (fun xs => kk Ex.rt (S51 xs)) (kk (Ex.ex 0) (S52)) x0 x1 x2 x3 x4 x5 x6 x7 x8 x9 xa xb xc xd xe xf xg xh xi xj xk xl xm xn xo xp xq xr
  | _ => none
theorem e59_9_0 {β : Type} (A : Pr) (B : Pk) (f96_0 : Int → Int → Int → Int → Int → Int → List R → Int → Int → Int → Int → Int → Int → Int → Bool → Bool → Bool → Bool → Bool → Bool → Bool → Bool → List R → Int → Int → Int → Int → Int → Int → (KB β) → Option β) (l59_9_0 : (KI β) → (Option β) → Q14 β) (x0 x1 x2 x3 x4 x5 : Int) (x6 : List R) (x7 x8 x9 xa xb xc xd : Int) (xe xf xg xh xi xj xk xl : Bool) (xm : List R) (xn xo : Int) (xp : List R) (xq xr : Int) (kk : Ex → List T → Option β) :
    uTs P53 [.i x0, .i x1, .i x2, .i x3, .i x4, .i x5, .l x6, .i x7, .i x8, .i x9, .i xa, .i xb, .i xc, .i xd, .b xe, .b xf, .b xg, .b xh, .b xi, .b xj, .b xk, .b xl, .l xm, .i xn, .i xo, .l xp, .i xq, .i xr] (fun s _ => evK (mkK Try.prog A B [(96, M96_0 f96_0)] [] (Hn 59).pt []) X59_9 s (fun e s' => match e with
      | .nm => (match M59_9 l59_9_0 s' with | some h => h kk | none => none)
      | .ex m => kk (.ex m) (clean ((Hn 59).lp (firstReg X59_9)).2 s')
      | .rt => kk .rt (clean ((Hn 59).lp (firstReg X59_9)).2 s'))) = GL59_9_0 A B f96_0 l59_9_0 (fun xs => kk Ex.rt (S51 xs)) (kk (Ex.ex 0) (S52)) x0 x1 x2 x3 x4 x5 x6 x7 x8 x9 xa xb xc xd xe xf xg xh xi xj xk xl xm xn xo xp xq xr := by kernel_rfl
theorem ol59_9 {β : Type} (N : Nat) : ∀ n, SndL (β := β) Try.prog Hn (Hn 59) X59_9 (M59_9 (L59_9_0 re rk N n))
  | 0 => by
    intro s h kk r ha hr
    unfold M59_9 at ha
    split at ha
    · cases ha; cases hr
    · cases ha
  | n + 1 => by
    have ih := ol59_9 (β := β) N n
    intro s h kk r ha hr
    unfold M59_9 at ha
    split at ha
    · rename_i hs
      cases ha
      have hk := via_pat hs ((e59_9_0 re rk (F96_0 re rk N) (L59_9_0 re rk N n) _ _ _ _ _ _ _ _ _ _ _ _ _ _ _ _ _ _ _ _ _ _ _ _ _ _ _ _ kk).trans hr)
      exact round_ok (show SndAll Try.prog Hn [(96, M96_0 (F96_0 re rk N))] from ⟨o96_0 N, trivial⟩) (spots := []) (by kernel_rfl) trivial ih (hd := clean ((Hn 59).lp 9).1 s) (by rw [i59_9]) hk
    · cases ha
def G59_0 {β : Type} (A : Pr) (B : Pk) (f45_0 : Int → Int → Int → Int → Int → Int → List R → (KI β) → Option β) (f72_0 : Int → Int → List R → (KB β) → Option β) (f94_0 : Int → Int → Int → Int → Int → Int → List R → Int → Int → Int → Int → Int → Int → Int → Bool → Bool → Bool → Bool → Bool → Bool → Bool → Bool → List R → Int → Int → (KB β) → Option β) (f95_0 : Int → Int → Int → Int → Int → Int → (KL β) → Option β) (l59_9_0 : (KI β) → (Option β) → Q14 β) (x0 x1 x2 x3 x4 x5 : Int) (x6 : List R) (x7 x8 x9 xa xb xc xd : Int) (xe xf xg xh xi xj xk xl : Bool) (xm : List R) (xn xo : Int) (k0 : KI β) : Option β :=
    f45_0 x0 x1 x2 x3 x4 x5 x6 (fun xp =>
    match (A.cm .neq xp 0) with
      | true => (k0 xp)
      | false => (f72_0 1 3 [(R.i .i64 x7)] (fun xq =>
        match (A.bn xq) with
          | true => (k0 3)
          | false => (f72_0 0 2 [(R.i .i64 x9)] (fun xr =>
            match (A.bn xr) with
              | true => (k0 3)
              | false => (f72_0 1 5 [(R.i .i64 xc)] (fun xs =>
                match (A.bn xs) with
                  | true => (k0 3)
                  | false => (f94_0 x0 x1 x2 x3 x4 x5 x6 x7 x8 x9 xa xb xc xd xe xf xg xh xi xj xk xl xm xn xo (fun xt =>
                    match (A.bn xt) with
                      | true => (k0 13)
                      | false => (f95_0 x0 x1 x2 x3 x4 x5 (fun xu =>
                        l59_9_0 (fun xv =>
                          k0 xv) (k0 0) x0 x1 x2 x3 x4 x5 x6 x7 x8 x9 xa xb xc xd xe xf xg xh xi xj xk xl xm xn xo xu (A.on (A.len xu)) 0)))))))))))
def F59_0 {β : Type} (A : Pr) (B : Pk) (N : Nat) (x0 x1 x2 x3 x4 x5 : Int) (x6 : List R) (x7 x8 x9 xa xb xc xd : Int) (xe xf xg xh xi xj xk xl : Bool) (xm : List R) (xn xo : Int) (k0 : KI β) : Option β :=
  G59_0 A B (F45_0 A B N) (F72_0 A B N) (F94_0 A B N) (F95_0 A B N) (L59_9_0 A B N N) x0 x1 x2 x3 x4 x5 x6 x7 x8 x9 xa xb xc xd xe xf xg xh xi xj xk xl xm xn xo k0
def M59_0 {β : Type} (f59_0 : Int → Int → Int → Int → Int → Int → List R → Int → Int → Int → Int → Int → Int → Int → Bool → Bool → Bool → Bool → Bool → Bool → Bool → Bool → List R → Int → Int → (KI β) → Option β) (a : List T) : Option ((T → List (List T) → Option β) → Option β) :=
  match gTs P35 a [] with
  | some [.i x0, .i x1, .i x2, .i x3, .i x4, .i x5, .l x6, .i x7, .i x8, .i x9, .i xa, .i xb, .i xc, .i xd, .b xe, .b xf, .b xg, .b xh, .b xi, .b xj, .b xk, .b xl, .l xm, .i xn, .i xo] => some fun kk => f59_0 x0 x1 x2 x3 x4 x5 x6 x7 x8 x9 xa xb xc xd xe xf xg xh xi xj xk xl xm xn xo (fun xp => kk (tI xp) [])
  | _ => none
theorem e59_0 {β : Type} (A : Pr) (B : Pk) (f45_0 : Int → Int → Int → Int → Int → Int → List R → (KI β) → Option β) (f72_0 : Int → Int → List R → (KB β) → Option β) (f94_0 : Int → Int → Int → Int → Int → Int → List R → Int → Int → Int → Int → Int → Int → Int → Bool → Bool → Bool → Bool → Bool → Bool → Bool → Bool → List R → Int → Int → (KB β) → Option β) (f95_0 : Int → Int → Int → Int → Int → Int → (KL β) → Option β) (l59_9_0 : (KI β) → (Option β) → Q14 β) (x0 x1 x2 x3 x4 x5 : Int) (x6 : List R) (x7 x8 x9 xa xb xc xd : Int) (xe xf xg xh xi xj xk xl : Bool) (xm : List R) (xn xo : Int) (kk : T → List (List T) → Option β) :
    uTs P35 [.i x0, .i x1, .i x2, .i x3, .i x4, .i x5, .l x6, .i x7, .i x8, .i x9, .i xa, .i xb, .i xc, .i xd, .b xe, .b xf, .b xg, .b xh, .b xi, .b xj, .b xk, .b xl, .l xm, .i xn, .i xo] (fun a _ => bodyK (mkK Try.prog A B [(45, M45_0 f45_0), (72, M72_0 f72_0), (94, M94_0 f94_0), (95, M95_0 f95_0)] [(9, M59_9 l59_9_0)] (Hn 59).pt []) Try.f59 a kk) = G59_0 A B f45_0 f72_0 f94_0 f95_0 l59_9_0 x0 x1 x2 x3 x4 x5 x6 x7 x8 x9 xa xb xc xd xe xf xg xh xi xj xk xl xm xn xo (fun xp => kk (tI xp) []) := by kernel_rfl
theorem o59_0 {β : Type} (N : Nat) : Snd (β := β) Try.prog Hn 59 (M59_0 (F59_0 re rk N)) := by
  intro a h kk r ha hr
  unfold M59_0 at ha
  split at ha
  · rename_i hs
    cases ha
    have hk := via_pat hs ((e59_0 re rk (F45_0 re rk N) (F72_0 re rk N) (F94_0 re rk N) (F95_0 re rk N) (L59_9_0 re rk N N) _ _ _ _ _ _ _ _ _ _ _ _ _ _ _ _ _ _ _ _ _ _ _ _ _ kk).trans hr)
    exact fn_ok (f := 59) (fn := Try.f59) (H := Hn) (by kernel_rfl) (show SndAll Try.prog Hn [(45, M45_0 (F45_0 re rk N)), (72, M72_0 (F72_0 re rk N)), (94, M94_0 (F94_0 re rk N)), (95, M95_0 (F95_0 re rk N))] from ⟨o45_0 N, o72_0 N, o94_0 N, o95_0 N, trivial⟩) (spots := [.lp X59_9]) (by kernel_rfl) ⟨cut_lp (id := 9) i59_9 (ol59_9 N N) (fun s kk => by kernel_rfl), trivial⟩ hk
  · cases ha
def G97_0 {β : Type} (A : Pr) (B : Pk) (x0 : List R) (k0 : KL β) : Option β :=
    match (A.nz (A.on (A.len x0))) with
    | true => none
    | false => (match (A.small (A.len (A.app [] x0)) 32) with
      | true => (k0 (A.app [] x0))
      | false => none)
def F97_0 {β : Type} (A : Pr) (B : Pk) (N : Nat) (x0 : List R) (k0 : KL β) : Option β :=
  G97_0 A B  x0 k0
def P54 : List PT := [(.r (.ro 4))]
def M97_0 {β : Type} (f97_0 : List R → (KL β) → Option β) (a : List T) : Option ((T → List (List T) → Option β) → Option β) :=
  match gTs P54 a [] with
  | some [.l x0] => some fun kk => f97_0 x0 (fun x1 => kk (T.own true 4 x1) [])
  | _ => none
theorem e97_0 {β : Type} (A : Pr) (B : Pk) (x0 : List R) (kk : T → List (List T) → Option β) :
    uTs P54 [.l x0] (fun a _ => bodyK (mkK Try.prog A B [] [] (Hn 97).pt []) Try.f97 a kk) = G97_0 A B  x0 (fun x1 => kk (T.own true 4 x1) []) := by kernel_rfl
theorem o97_0 {β : Type} (N : Nat) : Snd (β := β) Try.prog Hn 97 (M97_0 (F97_0 re rk N)) := by
  intro a h kk r ha hr
  unfold M97_0 at ha
  split at ha
  · rename_i hs
    cases ha
    have hk := via_pat hs ((e97_0 re rk  _ kk).trans hr)
    exact fn_ok (f := 97) (fn := Try.f97) (H := Hn) (by kernel_rfl) (show SndAll Try.prog Hn [] from trivial) (spots := []) (by kernel_rfl) trivial hk
  · cases ha
def G98_0 {β : Type} (A : Pr) (B : Pk)   (k0 : KL β) : Option β :=
    k0 []
def F98_0 {β : Type} (A : Pr) (B : Pk) (N : Nat)  (k0 : KL β) : Option β :=
  G98_0 A B   k0
def P55 : List PT := [(.r .sn)]
def M98_0 {β : Type} (f98_0 : (KL β) → Option β) (a : List T) : Option ((T → List (List T) → Option β) → Option β) :=
  match gTs P55 a [] with
  | some [] => some fun kk => f98_0  (fun x0 => kk (T.own true 2 x0) [])
  | _ => none
theorem e98_0 {β : Type} (A : Pr) (B : Pk)   (kk : T → List (List T) → Option β) :
    uTs P55 [] (fun a _ => bodyK (mkK Try.prog A B [] [] (Hn 98).pt []) Try.f98 a kk) = G98_0 A B   (fun x0 => kk (T.own true 2 x0) []) := by kernel_rfl
theorem o98_0 {β : Type} (N : Nat) : Snd (β := β) Try.prog Hn 98 (M98_0 (F98_0 re rk N)) := by
  intro a h kk r ha hr
  unfold M98_0 at ha
  split at ha
  · rename_i hs
    cases ha
    have hk := via_pat hs ((e98_0 re rk   kk).trans hr)
    exact fn_ok (f := 98) (fn := Try.f98) (H := Hn) (by kernel_rfl) (show SndAll Try.prog Hn [] from trivial) (spots := []) (by kernel_rfl) trivial hk
  · cases ha
def G99_0 {β : Type} (A : Pr) (B : Pk)   (k0 : KL β) : Option β :=
    k0 []
def F99_0 {β : Type} (A : Pr) (B : Pk) (N : Nat)  (k0 : KL β) : Option β :=
  G99_0 A B   k0
def M99_0 {β : Type} (f99_0 : (KL β) → Option β) (a : List T) : Option ((T → List (List T) → Option β) → Option β) :=
  match gTs P55 a [] with
  | some [] => some fun kk => f99_0  (fun x0 => kk (T.own true 1 x0) [])
  | _ => none
theorem e99_0 {β : Type} (A : Pr) (B : Pk)   (kk : T → List (List T) → Option β) :
    uTs P55 [] (fun a _ => bodyK (mkK Try.prog A B [] [] (Hn 99).pt []) Try.f99 a kk) = G99_0 A B   (fun x0 => kk (T.own true 1 x0) []) := by kernel_rfl
theorem o99_0 {β : Type} (N : Nat) : Snd (β := β) Try.prog Hn 99 (M99_0 (F99_0 re rk N)) := by
  intro a h kk r ha hr
  unfold M99_0 at ha
  split at ha
  · rename_i hs
    cases ha
    have hk := via_pat hs ((e99_0 re rk   kk).trans hr)
    exact fn_ok (f := 99) (fn := Try.f99) (H := Hn) (by kernel_rfl) (show SndAll Try.prog Hn [] from trivial) (spots := []) (by kernel_rfl) trivial hk
  · cases ha
def G63_0 {β : Type} (A : Pr) (B : Pk) (f97_0 : List R → (KL β) → Option β) (f98_0 : (KL β) → Option β) (f99_0 : (KL β) → Option β) (x0 x1 x2 x3 x4 x5 : Int) (x6 : List R) (x7 x8 x9 xa xb xc xd : Int) (xe xf xg xh xi xj xk xl : Bool) (xm xn : Int) (k0 : Q15 β) : Option β :=
    f97_0 x6 (fun xo =>
    f98_0 (fun xp =>
      f99_0 (fun xq =>
        k0 x0 x1 x2 x3 x4 x5 xo x7 x8 x9 xa xb xp xc xd xe xf xg xh xi xj xk xl xq xm xn)))
def F63_0 {β : Type} (A : Pr) (B : Pk) (N : Nat) (x0 x1 x2 x3 x4 x5 : Int) (x6 : List R) (x7 x8 x9 xa xb xc xd : Int) (xe xf xg xh xi xj xk xl : Bool) (xm xn : Int) (k0 : Q15 β) : Option β :=
  G63_0 A B (F97_0 A B N) (F98_0 A B N) (F99_0 A B N) x0 x1 x2 x3 x4 x5 x6 x7 x8 x9 xa xb xc xd xe xf xg xh xi xj xk xl xm xn k0
def M63_0 {β : Type} (f63_0 : Int → Int → Int → Int → Int → Int → List R → Int → Int → Int → Int → Int → Int → Int → Bool → Bool → Bool → Bool → Bool → Bool → Bool → Bool → Int → Int → (Q15 β) → Option β) (a : List T) : Option ((T → List (List T) → Option β) → Option β) :=
  match gTs P16 a [] with
  | some [.i x0, .i x1, .i x2, .i x3, .i x4, .i x5, .l x6, .i x7, .i x8, .i x9, .i xa, .i xb, .i xc, .i xd, .b xe, .b xf, .b xg, .b xh, .b xi, .b xj, .b xk, .b xl, .i xm, .i xn] => some fun kk => f63_0 x0 x1 x2 x3 x4 x5 x6 x7 x8 x9 xa xb xc xd xe xf xg xh xi xj xk xl xm xn (fun xo xp xq xr xs xt xu xv xw xx xy xz x10 x11 x12 x13 x14 x15 x16 x17 x18 x19 x1a x1b x1c x1d => kk (T.tp true [(T.tp false [(tI xo), (tI xp), (tI xq), (tI xr), (tI xs), (tI xt), (T.own true 4 xu)]), (T.tp false [(tI xv), (tI xw), (tI xx), (tI xy), (tI xz), (T.own true 2 x10), (tI x11), (tI x12), (tB x13), (tB x14), (tB x15), (tB x16), (tB x17), (tB x18), (tB x19), (tB x1a), (T.own true 1 x1b), (tI x1c), (tI x1d)])]) [])
  | _ => none
theorem e63_0 {β : Type} (A : Pr) (B : Pk) (f97_0 : List R → (KL β) → Option β) (f98_0 : (KL β) → Option β) (f99_0 : (KL β) → Option β) (x0 x1 x2 x3 x4 x5 : Int) (x6 : List R) (x7 x8 x9 xa xb xc xd : Int) (xe xf xg xh xi xj xk xl : Bool) (xm xn : Int) (kk : T → List (List T) → Option β) :
    uTs P16 [.i x0, .i x1, .i x2, .i x3, .i x4, .i x5, .l x6, .i x7, .i x8, .i x9, .i xa, .i xb, .i xc, .i xd, .b xe, .b xf, .b xg, .b xh, .b xi, .b xj, .b xk, .b xl, .i xm, .i xn] (fun a _ => bodyK (mkK Try.prog A B [(97, M97_0 f97_0), (98, M98_0 f98_0), (99, M99_0 f99_0)] [] (Hn 63).pt []) Try.f63 a kk) = G63_0 A B f97_0 f98_0 f99_0 x0 x1 x2 x3 x4 x5 x6 x7 x8 x9 xa xb xc xd xe xf xg xh xi xj xk xl xm xn (fun xo xp xq xr xs xt xu xv xw xx xy xz x10 x11 x12 x13 x14 x15 x16 x17 x18 x19 x1a x1b x1c x1d => kk (T.tp true [(T.tp false [(tI xo), (tI xp), (tI xq), (tI xr), (tI xs), (tI xt), (T.own true 4 xu)]), (T.tp false [(tI xv), (tI xw), (tI xx), (tI xy), (tI xz), (T.own true 2 x10), (tI x11), (tI x12), (tB x13), (tB x14), (tB x15), (tB x16), (tB x17), (tB x18), (tB x19), (tB x1a), (T.own true 1 x1b), (tI x1c), (tI x1d)])]) []) := by kernel_rfl
theorem o63_0 {β : Type} (N : Nat) : Snd (β := β) Try.prog Hn 63 (M63_0 (F63_0 re rk N)) := by
  intro a h kk r ha hr
  unfold M63_0 at ha
  split at ha
  · rename_i hs
    cases ha
    have hk := via_pat hs ((e63_0 re rk (F97_0 re rk N) (F98_0 re rk N) (F99_0 re rk N) _ _ _ _ _ _ _ _ _ _ _ _ _ _ _ _ _ _ _ _ _ _ _ _ kk).trans hr)
    exact fn_ok (f := 63) (fn := Try.f63) (H := Hn) (by kernel_rfl) (show SndAll Try.prog Hn [(97, M97_0 (F97_0 re rk N)), (98, M98_0 (F98_0 re rk N)), (99, M99_0 (F99_0 re rk N))] from ⟨o97_0 N, o98_0 N, o99_0 N, trivial⟩) (spots := []) (by kernel_rfl) trivial hk
  · cases ha
def G33_0 {β : Type} (A : Pr) (B : Pk) (f59_0 : Int → Int → Int → Int → Int → Int → List R → Int → Int → Int → Int → Int → Int → Int → Bool → Bool → Bool → Bool → Bool → Bool → Bool → Bool → List R → Int → Int → (KI β) → Option β) (f60_0 : Int → Int → Int → Int → Int → Int → Int → Int → (K4 β) → Option β) (f61_0 : Int → Int → Int → Int → (KB β) → Option β) (f62_0 : Int → Int → Int → Int → (KB β) → Option β) (f63_0 : Int → Int → Int → Int → Int → Int → List R → Int → Int → Int → Int → Int → Int → Int → Bool → Bool → Bool → Bool → Bool → Bool → Bool → Bool → Int → Int → (Q15 β) → Option β) (f47_0 : Int → Int → Int → Int → Int → Int → (K4 β) → Option β) (f45_0 : Int → Int → Int → Int → Int → Int → List R → (KI β) → Option β) (x0 x1 x2 x3 x4 x5 : Int) (x6 : List R) (x7 x8 x9 xa xb xc xd : Int) (xe xf xg xh xi xj xk xl : Bool) (xm : List R) (xn xo xp xq xr xs xt xu : Int) (k0 : Int → Int → Int → Int → Int → Int → Int → Option β) (k1 : Int → Int → Int → Int → Int → Int → List R → Int → Option β) : Option β :=
    f59_0 x0 x1 x2 x3 x4 x5 x6 x7 x8 x9 xa xb xc xd xe xf xg xh xi xj xk xl xm xn xo (fun xv =>
    match (A.cm .neq xv 0) with
      | true => (k0 0 0 0 0 0 0 xv)
      | false => (match (A.cm .lss xp 0) with
        | true => (k0 0 0 0 0 0 0 2)
        | false => (match (A.cm .gtr xp 16) with
          | true => (k0 0 0 0 0 0 0 2)
          | false => (match (A.cm .lss xq 0) with
            | true => (k0 0 0 0 0 0 0 2)
            | false => (match (A.cm .gtr xq x8) with
              | true => (k0 0 0 0 0 0 0 2)
              | false => (match (A.bn (A.ba (A.cm .eql xr 0) (A.ba (A.cm .eql xs 0) (A.ba (A.cm .eql xt 0) (A.ba (A.cm .eql xu 0) true))))) with
                | true => (f60_0 x0 x1 x2 x3 xr xs xt xu (fun xw xx xy xz =>
                  f61_0 xr xs xt xu (fun x10 =>
                    match (A.bn x10) with
                      | true => (k0 0 0 0 0 0 0 2)
                      | false => (f62_0 xw xx xy xz (fun x11 =>
                        match x11 with
                          | true => (k0 0 0 0 0 0 0 2)
                          | false => (match (A.sh (A.cv .u64 xq)) with
                            | true => (f63_0 x0 x1 x2 x3 x4 x5 x6 0 0 0 0 0 0 0 false false false false false false false false 0 0 (fun x12 x13 x14 x15 x16 x17 x18 x19 x1a x1b x1c x1d x1e x1f x1g x1h x1i x1j x1k x1l x1m x1n x1o x1p x1q x1r =>
                              f47_0 xw xx xy xz (A.ar .shl .i64 1 (A.cv .u64 xq)) (A.ar .shl .i64 1 (A.cv .u64 xq)) (fun x1s x1t x1u x1v =>
                                f45_0 x1s x1t x1u x1v 4096 4096 x18 (fun x1w =>
                                  match (A.cm .neq x1w 0) with
                                    | true => (k0 0 0 0 0 0 0 2)
                                    | false => (k1 x1s x1t x1u x1v 4096 4096 x18 0)))))
                            | false => none))))))
                | false => (match (A.sh (A.cv .u64 xq)) with
                  | true => (f63_0 x0 x1 x2 x3 x4 x5 x6 0 0 0 0 0 0 0 false false false false false false false false 0 0 (fun x1x x1y x1z x20 x21 x22 x23 x24 x25 x26 x27 x28 x29 x2a x2b x2c x2d x2e x2f x2g x2h x2i x2j x2k x2l x2m =>
                    f47_0 x0 x1 x2 x3 (A.ar .shl .i64 1 (A.cv .u64 xq)) (A.ar .shl .i64 1 (A.cv .u64 xq)) (fun x2n x2o x2p x2q =>
                      f45_0 x2n x2o x2p x2q 4096 4096 x23 (fun x2r =>
                        match (A.cm .neq x2r 0) with
                          | true => (k0 0 0 0 0 0 0 2)
                          | false => (k1 x2n x2o x2p x2q 4096 4096 x23 0)))))
                  | false => none)))))))
def F33_0 {β : Type} (A : Pr) (B : Pk) (N : Nat) (x0 x1 x2 x3 x4 x5 : Int) (x6 : List R) (x7 x8 x9 xa xb xc xd : Int) (xe xf xg xh xi xj xk xl : Bool) (xm : List R) (xn xo xp xq xr xs xt xu : Int) (k0 : Int → Int → Int → Int → Int → Int → Int → Option β) (k1 : Int → Int → Int → Int → Int → Int → List R → Int → Option β) : Option β :=
  G33_0 A B (F59_0 A B N) (F60_0 A B N) (F61_0 A B N) (F62_0 A B N) (F63_0 A B N) (F47_0 A B N) (F45_0 A B N) x0 x1 x2 x3 x4 x5 x6 x7 x8 x9 xa xb xc xd xe xf xg xh xi xj xk xl xm xn xo xp xq xr xs xt xu k0 k1
def P56 : List PT := [(.r (.a [(.i .i64), (.i .i64), (.i .i64), (.i .i64), (.i .i64), (.i .i64), (.ro 4)])), (.r (.a [(.i .i64), (.i .i64), (.i .i64), (.i .i64), (.i .i64), .sn, (.i .i64), (.i .i64), .b, .b, .b, .b, .b, .b, .b, .b, (.ro 1), (.i .i64), (.i .i64)])), (.r (.a [(.i .i64), (.i .i64), (.i .i64), (.i .i64), (.i .i64), (.i .i64)]))]
def M33_0 {β : Type} (f33_0 : Int → Int → Int → Int → Int → Int → List R → Int → Int → Int → Int → Int → Int → Int → Bool → Bool → Bool → Bool → Bool → Bool → Bool → Bool → List R → Int → Int → Int → Int → Int → Int → Int → Int → (Int → Int → Int → Int → Int → Int → Int → Option β) → (Int → Int → Int → Int → Int → Int → List R → Int → Option β) → Option β) (a : List T) : Option ((T → List (List T) → Option β) → Option β) :=
  match gTs P56 a [] with
  | some (.i x0 :: .i x1 :: .i x2 :: .i x3 :: .i x4 :: .i x5 :: .l x6 :: .i x7 :: .i x8 :: .i x9 :: .i xa :: .i xb :: .i xc :: .i xd :: .b xe :: .b xf :: .b xg :: .b xh :: .b xi :: .b xj :: .b xk :: .b xl :: .l xm :: .i xn :: .i xo :: .i xp :: .i xq :: .i xr :: .i xs :: .i xt :: .i xu :: []) => some fun kk => f33_0 x0 x1 x2 x3 x4 x5 x6 x7 x8 x9 xa xb xc xd xe xf xg xh xi xj xk xl xm xn xo xp xq xr xs xt xu (fun xv xw xx xy xz x10 x11 => kk (T.tp true [(T.tp false [(tI xv), (tI xw), (tI xx), (tI xy), (tI xz), (tI x10), (T.r R.sn)]), (tI x11)]) []) (fun x12 x13 x14 x15 x16 x17 x18 x19 => kk (T.tp true [(T.tp false [(tI x12), (tI x13), (tI x14), (tI x15), (tI x16), (tI x17), (T.own true 4 x18)]), (tI x19)]) [])
  | _ => none
theorem e33_0 {β : Type} (A : Pr) (B : Pk) (f59_0 : Int → Int → Int → Int → Int → Int → List R → Int → Int → Int → Int → Int → Int → Int → Bool → Bool → Bool → Bool → Bool → Bool → Bool → Bool → List R → Int → Int → (KI β) → Option β) (f60_0 : Int → Int → Int → Int → Int → Int → Int → Int → (K4 β) → Option β) (f61_0 : Int → Int → Int → Int → (KB β) → Option β) (f62_0 : Int → Int → Int → Int → (KB β) → Option β) (f63_0 : Int → Int → Int → Int → Int → Int → List R → Int → Int → Int → Int → Int → Int → Int → Bool → Bool → Bool → Bool → Bool → Bool → Bool → Bool → Int → Int → (Q15 β) → Option β) (f47_0 : Int → Int → Int → Int → Int → Int → (K4 β) → Option β) (f45_0 : Int → Int → Int → Int → Int → Int → List R → (KI β) → Option β) (x0 x1 x2 x3 x4 x5 : Int) (x6 : List R) (x7 x8 x9 xa xb xc xd : Int) (xe xf xg xh xi xj xk xl : Bool) (xm : List R) (xn xo xp xq xr xs xt xu : Int) (kk : T → List (List T) → Option β) :
    uTs P56 (.i x0 :: .i x1 :: .i x2 :: .i x3 :: .i x4 :: .i x5 :: .l x6 :: .i x7 :: .i x8 :: .i x9 :: .i xa :: .i xb :: .i xc :: .i xd :: .b xe :: .b xf :: .b xg :: .b xh :: .b xi :: .b xj :: .b xk :: .b xl :: .l xm :: .i xn :: .i xo :: .i xp :: .i xq :: .i xr :: .i xs :: .i xt :: .i xu :: []) (fun a _ => bodyK (mkK Try.prog A B [(59, M59_0 f59_0), (60, M60_0 f60_0), (61, M61_0 f61_0), (62, M62_0 f62_0), (63, M63_0 f63_0), (47, M47_0 f47_0), (45, M45_0 f45_0)] [] (Hn 33).pt []) Try.f33 a kk) = G33_0 A B f59_0 f60_0 f61_0 f62_0 f63_0 f47_0 f45_0 x0 x1 x2 x3 x4 x5 x6 x7 x8 x9 xa xb xc xd xe xf xg xh xi xj xk xl xm xn xo xp xq xr xs xt xu (fun xv xw xx xy xz x10 x11 => kk (T.tp true [(T.tp false [(tI xv), (tI xw), (tI xx), (tI xy), (tI xz), (tI x10), (T.r R.sn)]), (tI x11)]) []) (fun x12 x13 x14 x15 x16 x17 x18 x19 => kk (T.tp true [(T.tp false [(tI x12), (tI x13), (tI x14), (tI x15), (tI x16), (tI x17), (T.own true 4 x18)]), (tI x19)]) []) := by kernel_rfl
theorem o33_0 {β : Type} (N : Nat) : Snd (β := β) Try.prog Hn 33 (M33_0 (F33_0 re rk N)) := by
  intro a h kk r ha hr
  unfold M33_0 at ha
  split at ha
  · rename_i hs
    cases ha
    have hk := via_pat hs ((e33_0 re rk (F59_0 re rk N) (F60_0 re rk N) (F61_0 re rk N) (F62_0 re rk N) (F63_0 re rk N) (F47_0 re rk N) (F45_0 re rk N) _ _ _ _ _ _ _ _ _ _ _ _ _ _ _ _ _ _ _ _ _ _ _ _ _ _ _ _ _ _ _ kk).trans hr)
    exact fn_ok (f := 33) (fn := Try.f33) (H := Hn) (by kernel_rfl) (show SndAll Try.prog Hn [(59, M59_0 (F59_0 re rk N)), (60, M60_0 (F60_0 re rk N)), (61, M61_0 (F61_0 re rk N)), (62, M62_0 (F62_0 re rk N)), (63, M63_0 (F63_0 re rk N)), (47, M47_0 (F47_0 re rk N)), (45, M45_0 (F45_0 re rk N))] from ⟨o59_0 N, o60_0 N, o61_0 N, o62_0 N, o63_0 N, o47_0 N, o45_0 N, trivial⟩) (spots := []) (by kernel_rfl) trivial hk
  · cases ha
def G32_0 {β : Type} (A : Pr) (B : Pk) (f33_0 : Int → Int → Int → Int → Int → Int → List R → Int → Int → Int → Int → Int → Int → Int → Bool → Bool → Bool → Bool → Bool → Bool → Bool → Bool → List R → Int → Int → Int → Int → Int → Int → Int → Int → (Int → Int → Int → Int → Int → Int → Int → Option β) → (Int → Int → Int → Int → Int → Int → List R → Int → Option β) → Option β)  (k0 : KB β) : Option β :=
    f33_0 0 0 7 5 8 8 [(R.a [(R.i .i64 8), (R.b false), (R.i .i64 1), (R.i .i64 1)])] 2 1 0 2 2 1 1 false false false false false false false false [(R.i .i64 1), (R.i .i64 1), (R.i .i64 1), (R.i .i64 1)] 16 0 0 1 0 0 0 0 (fun x0 x1 x2 x3 x4 x5 x6 =>
    f33_0 0 0 7 5 8 8 [(R.a [(R.i .i64 8), (R.b false), (R.i .i64 1), (R.i .i64 1)])] 2 1 0 2 2 1 1 false false false false false false false false [(R.i .i64 1), (R.i .i64 1), (R.i .i64 1), (R.i .i64 1)] 16 0 0 1 2 0 4 2 (fun x7 x8 x9 xa xb xc xd =>
      f33_0 0 0 7 5 8 8 [(R.a [(R.i .i64 8), (R.b false), (R.i .i64 1), (R.i .i64 1)])] 2 1 0 2 2 1 1 false false false false false false false false [(R.i .i64 1), (R.i .i64 1), (R.i .i64 1), (R.i .i64 1)] 16 0 0 2 0 0 0 0 (fun xe xf xg xh xi xj xk =>
        match (A.cm .eql x6 0) with
          | true => (match (A.cm .eql xd 0) with
            | true => (match (A.cm .eql xk 2) with
              | true => (match (A.ba (A.cm .eql x0 0) (A.ba (A.cm .eql x1 0) (A.ba (A.cm .eql x2 4) (A.ba (A.cm .eql x3 3) true)))) with
                | true => (k0 (A.ba (A.cm .eql x7 1) (A.ba (A.cm .eql x8 0) (A.ba (A.cm .eql x9 2) (A.ba (A.cm .eql xa 1) true)))))
                | false => (k0 false))
              | false => (k0 false))
            | false => (k0 false))
          | false => (k0 false)) (fun xl xm xn xo xp xq xr xs =>
        match (A.cm .eql x6 0) with
          | true => (match (A.cm .eql xd 0) with
            | true => (match (A.cm .eql xs 2) with
              | true => (match (A.ba (A.cm .eql x0 0) (A.ba (A.cm .eql x1 0) (A.ba (A.cm .eql x2 4) (A.ba (A.cm .eql x3 3) true)))) with
                | true => (k0 (A.ba (A.cm .eql x7 1) (A.ba (A.cm .eql x8 0) (A.ba (A.cm .eql x9 2) (A.ba (A.cm .eql xa 1) true)))))
                | false => (k0 false))
              | false => (k0 false))
            | false => (k0 false))
          | false => (k0 false))) (fun xt xu xv xw xx xy xz x10 =>
      f33_0 0 0 7 5 8 8 [(R.a [(R.i .i64 8), (R.b false), (R.i .i64 1), (R.i .i64 1)])] 2 1 0 2 2 1 1 false false false false false false false false [(R.i .i64 1), (R.i .i64 1), (R.i .i64 1), (R.i .i64 1)] 16 0 0 2 0 0 0 0 (fun x11 x12 x13 x14 x15 x16 x17 =>
        match (A.cm .eql x6 0) with
          | true => (match (A.cm .eql x10 0) with
            | true => (match (A.cm .eql x17 2) with
              | true => (match (A.ba (A.cm .eql x0 0) (A.ba (A.cm .eql x1 0) (A.ba (A.cm .eql x2 4) (A.ba (A.cm .eql x3 3) true)))) with
                | true => (k0 (A.ba (A.cm .eql xt 1) (A.ba (A.cm .eql xu 0) (A.ba (A.cm .eql xv 2) (A.ba (A.cm .eql xw 1) true)))))
                | false => (k0 false))
              | false => (k0 false))
            | false => (k0 false))
          | false => (k0 false)) (fun x18 x19 x1a x1b x1c x1d x1e x1f =>
        match (A.cm .eql x6 0) with
          | true => (match (A.cm .eql x10 0) with
            | true => (match (A.cm .eql x1f 2) with
              | true => (match (A.ba (A.cm .eql x0 0) (A.ba (A.cm .eql x1 0) (A.ba (A.cm .eql x2 4) (A.ba (A.cm .eql x3 3) true)))) with
                | true => (k0 (A.ba (A.cm .eql xt 1) (A.ba (A.cm .eql xu 0) (A.ba (A.cm .eql xv 2) (A.ba (A.cm .eql xw 1) true)))))
                | false => (k0 false))
              | false => (k0 false))
            | false => (k0 false))
          | false => (k0 false)))) (fun x1g x1h x1i x1j x1k x1l x1m x1n =>
    f33_0 0 0 7 5 8 8 [(R.a [(R.i .i64 8), (R.b false), (R.i .i64 1), (R.i .i64 1)])] 2 1 0 2 2 1 1 false false false false false false false false [(R.i .i64 1), (R.i .i64 1), (R.i .i64 1), (R.i .i64 1)] 16 0 0 1 2 0 4 2 (fun x1o x1p x1q x1r x1s x1t x1u =>
      f33_0 0 0 7 5 8 8 [(R.a [(R.i .i64 8), (R.b false), (R.i .i64 1), (R.i .i64 1)])] 2 1 0 2 2 1 1 false false false false false false false false [(R.i .i64 1), (R.i .i64 1), (R.i .i64 1), (R.i .i64 1)] 16 0 0 2 0 0 0 0 (fun x1v x1w x1x x1y x1z x20 x21 =>
        match (A.cm .eql x1n 0) with
          | true => (match (A.cm .eql x1u 0) with
            | true => (match (A.cm .eql x21 2) with
              | true => (match (A.ba (A.cm .eql x1g 0) (A.ba (A.cm .eql x1h 0) (A.ba (A.cm .eql x1i 4) (A.ba (A.cm .eql x1j 3) true)))) with
                | true => (k0 (A.ba (A.cm .eql x1o 1) (A.ba (A.cm .eql x1p 0) (A.ba (A.cm .eql x1q 2) (A.ba (A.cm .eql x1r 1) true)))))
                | false => (k0 false))
              | false => (k0 false))
            | false => (k0 false))
          | false => (k0 false)) (fun x22 x23 x24 x25 x26 x27 x28 x29 =>
        match (A.cm .eql x1n 0) with
          | true => (match (A.cm .eql x1u 0) with
            | true => (match (A.cm .eql x29 2) with
              | true => (match (A.ba (A.cm .eql x1g 0) (A.ba (A.cm .eql x1h 0) (A.ba (A.cm .eql x1i 4) (A.ba (A.cm .eql x1j 3) true)))) with
                | true => (k0 (A.ba (A.cm .eql x1o 1) (A.ba (A.cm .eql x1p 0) (A.ba (A.cm .eql x1q 2) (A.ba (A.cm .eql x1r 1) true)))))
                | false => (k0 false))
              | false => (k0 false))
            | false => (k0 false))
          | false => (k0 false))) (fun x2a x2b x2c x2d x2e x2f x2g x2h =>
      f33_0 0 0 7 5 8 8 [(R.a [(R.i .i64 8), (R.b false), (R.i .i64 1), (R.i .i64 1)])] 2 1 0 2 2 1 1 false false false false false false false false [(R.i .i64 1), (R.i .i64 1), (R.i .i64 1), (R.i .i64 1)] 16 0 0 2 0 0 0 0 (fun x2i x2j x2k x2l x2m x2n x2o =>
        match (A.cm .eql x1n 0) with
          | true => (match (A.cm .eql x2h 0) with
            | true => (match (A.cm .eql x2o 2) with
              | true => (match (A.ba (A.cm .eql x1g 0) (A.ba (A.cm .eql x1h 0) (A.ba (A.cm .eql x1i 4) (A.ba (A.cm .eql x1j 3) true)))) with
                | true => (k0 (A.ba (A.cm .eql x2a 1) (A.ba (A.cm .eql x2b 0) (A.ba (A.cm .eql x2c 2) (A.ba (A.cm .eql x2d 1) true)))))
                | false => (k0 false))
              | false => (k0 false))
            | false => (k0 false))
          | false => (k0 false)) (fun x2p x2q x2r x2s x2t x2u x2v x2w =>
        match (A.cm .eql x1n 0) with
          | true => (match (A.cm .eql x2h 0) with
            | true => (match (A.cm .eql x2w 2) with
              | true => (match (A.ba (A.cm .eql x1g 0) (A.ba (A.cm .eql x1h 0) (A.ba (A.cm .eql x1i 4) (A.ba (A.cm .eql x1j 3) true)))) with
                | true => (k0 (A.ba (A.cm .eql x2a 1) (A.ba (A.cm .eql x2b 0) (A.ba (A.cm .eql x2c 2) (A.ba (A.cm .eql x2d 1) true)))))
                | false => (k0 false))
              | false => (k0 false))
            | false => (k0 false))
          | false => (k0 false))))
def F32_0 {β : Type} (A : Pr) (B : Pk) (N : Nat)  (k0 : KB β) : Option β :=
  G32_0 A B (F33_0 A B N)  k0
def P57 : List PT := []
def M32_0 {β : Type} (f32_0 : (KB β) → Option β) (a : List T) : Option ((T → List (List T) → Option β) → Option β) :=
  match gTs P57 a [] with
  | some [] => some fun kk => f32_0  (fun x0 => kk (tB x0) [])
  | _ => none
theorem e32_0 {β : Type} (A : Pr) (B : Pk) (f33_0 : Int → Int → Int → Int → Int → Int → List R → Int → Int → Int → Int → Int → Int → Int → Bool → Bool → Bool → Bool → Bool → Bool → Bool → Bool → List R → Int → Int → Int → Int → Int → Int → Int → Int → (Int → Int → Int → Int → Int → Int → Int → Option β) → (Int → Int → Int → Int → Int → Int → List R → Int → Option β) → Option β)  (kk : T → List (List T) → Option β) :
    uTs P57 [] (fun a _ => bodyK (mkK Try.prog A B [(33, M33_0 f33_0)] [] (Hn 32).pt []) Try.f32 a kk) = G32_0 A B f33_0  (fun x0 => kk (tB x0) []) := by kernel_rfl
theorem o32_0 {β : Type} (N : Nat) : Snd (β := β) Try.prog Hn 32 (M32_0 (F32_0 re rk N)) := by
  intro a h kk r ha hr
  unfold M32_0 at ha
  split at ha
  · rename_i hs
    cases ha
    have hk := via_pat hs ((e32_0 re rk (F33_0 re rk N)  kk).trans hr)
    exact fn_ok (f := 32) (fn := Try.f32) (H := Hn) (by kernel_rfl) (show SndAll Try.prog Hn [(33, M33_0 (F33_0 re rk N))] from ⟨o33_0 N, trivial⟩) (spots := []) (by kernel_rfl) trivial hk
  · cases ha
def G46_0 {β : Type} (A : Pr) (B : Pk) (f61_0 : Int → Int → Int → Int → (KB β) → Option β) (f75_0 : Int → Int → Int → Int → (KI β) → Option β) (x0 x1 x2 x3 : Int) (x4 : List R) (k0 : KB β) : Option β :=
    f61_0 x0 x1 x2 x3 (fun x5 =>
    match x5 with
      | true => (f75_0 x0 x1 x2 x3 (fun x6 =>
        match (A.cm .leq x6 1048576) with
          | true => (f75_0 x0 x1 x2 x3 (fun x7 =>
            k0 (A.cm .eql (A.on (A.len x4)) x7)))
          | false => (k0 false)))
      | false => (k0 false))
def F46_0 {β : Type} (A : Pr) (B : Pk) (N : Nat) (x0 x1 x2 x3 : Int) (x4 : List R) (k0 : KB β) : Option β :=
  G46_0 A B (F61_0 A B N) (F75_0 A B N) x0 x1 x2 x3 x4 k0
def P58 : List PT := [(.r (.a [(.i .i64), (.i .i64), (.i .i64), (.i .i64), (.ro 1)]))]
def M46_0 {β : Type} (f46_0 : Int → Int → Int → Int → List R → (KB β) → Option β) (a : List T) : Option ((T → List (List T) → Option β) → Option β) :=
  match gTs P58 a [] with
  | some [.i x0, .i x1, .i x2, .i x3, .l x4] => some fun kk => f46_0 x0 x1 x2 x3 x4 (fun x5 => kk (tB x5) [])
  | _ => none
theorem e46_0 {β : Type} (A : Pr) (B : Pk) (f61_0 : Int → Int → Int → Int → (KB β) → Option β) (f75_0 : Int → Int → Int → Int → (KI β) → Option β) (x0 x1 x2 x3 : Int) (x4 : List R) (kk : T → List (List T) → Option β) :
    uTs P58 [.i x0, .i x1, .i x2, .i x3, .l x4] (fun a _ => bodyK (mkK Try.prog A B [(61, M61_0 f61_0), (75, M75_0 f75_0)] [] (Hn 46).pt []) Try.f46 a kk) = G46_0 A B f61_0 f75_0 x0 x1 x2 x3 x4 (fun x5 => kk (tB x5) []) := by kernel_rfl
theorem o46_0 {β : Type} (N : Nat) : Snd (β := β) Try.prog Hn 46 (M46_0 (F46_0 re rk N)) := by
  intro a h kk r ha hr
  unfold M46_0 at ha
  split at ha
  · rename_i hs
    cases ha
    have hk := via_pat hs ((e46_0 re rk (F61_0 re rk N) (F75_0 re rk N) _ _ _ _ _ kk).trans hr)
    exact fn_ok (f := 46) (fn := Try.f46) (H := Hn) (by kernel_rfl) (show SndAll Try.prog Hn [(61, M61_0 (F61_0 re rk N)), (75, M75_0 (F75_0 re rk N))] from ⟨o61_0 N, o75_0 N, trivial⟩) (spots := []) (by kernel_rfl) trivial hk
  · cases ha
def G76_0 {β : Type} (A : Pr) (B : Pk) (x0 : Int) (k0 : KB β) : Option β :=
    match (A.cm .geq x0 1) with
    | true => (k0 (A.cm .leq x0 16))
    | false => (k0 false)
def F76_0 {β : Type} (A : Pr) (B : Pk) (N : Nat) (x0 : Int) (k0 : KB β) : Option β :=
  G76_0 A B  x0 k0
def M76_0 {β : Type} (f76_0 : Int → (KB β) → Option β) (a : List T) : Option ((T → List (List T) → Option β) → Option β) :=
  match gTs P40 a [] with
  | some [.i x0] => some fun kk => f76_0 x0 (fun x1 => kk (tB x1) [])
  | _ => none
theorem e76_0 {β : Type} (A : Pr) (B : Pk) (x0 : Int) (kk : T → List (List T) → Option β) :
    uTs P40 [.i x0] (fun a _ => bodyK (mkK Try.prog A B [] [] (Hn 76).pt []) Try.f76 a kk) = G76_0 A B  x0 (fun x1 => kk (tB x1) []) := by kernel_rfl
theorem o76_0 {β : Type} (N : Nat) : Snd (β := β) Try.prog Hn 76 (M76_0 (F76_0 re rk N)) := by
  intro a h kk r ha hr
  unfold M76_0 at ha
  split at ha
  · rename_i hs
    cases ha
    have hk := via_pat hs ((e76_0 re rk  _ kk).trans hr)
    exact fn_ok (f := 76) (fn := Try.f76) (H := Hn) (by kernel_rfl) (show SndAll Try.prog Hn [] from trivial) (spots := []) (by kernel_rfl) trivial hk
  · cases ha
def G48_0 {β : Type} (A : Pr) (B : Pk) (f76_0 : Int → (KB β) → Option β) (x0 : Int) (x1 : Bool) (x2 x3 : Int) (k0 : Int → Int → Option β) : Option β :=
    f76_0 x0 (fun x4 =>
    match (A.bn x4) with
      | true => (k0 0 0)
      | false => (match x1 with
        | true => (match (A.sh (A.ar .sub .i64 x0 1)) with
          | true => (match (A.sh (A.ar .sub .i64 x0 1)) with
            | true => (k0 (A.ar .shl .i64 (-1) (A.ar .sub .i64 x0 1)) (A.ar .sub .i64 (A.ar .shl .i64 1 (A.ar .sub .i64 x0 1)) 1))
            | false => none)
          | false => none)
        | false => (match (A.sh x0) with
          | true => (k0 0 (A.ar .sub .i64 (A.ar .shl .i64 1 x0) 1))
          | false => none)))
def F48_0 {β : Type} (A : Pr) (B : Pk) (N : Nat) (x0 : Int) (x1 : Bool) (x2 x3 : Int) (k0 : Int → Int → Option β) : Option β :=
  G48_0 A B (F76_0 A B N) x0 x1 x2 x3 k0
def P59 : List PT := [(.r (.a [(.i .i64), .b, (.i .i64), (.i .i64)]))]
def M48_0 {β : Type} (f48_0 : Int → Bool → Int → Int → (Int → Int → Option β) → Option β) (a : List T) : Option ((T → List (List T) → Option β) → Option β) :=
  match gTs P59 a [] with
  | some [.i x0, .b x1, .i x2, .i x3] => some fun kk => f48_0 x0 x1 x2 x3 (fun x4 x5 => kk (T.tp true [(tI x4), (tI x5)]) [])
  | _ => none
theorem e48_0 {β : Type} (A : Pr) (B : Pk) (f76_0 : Int → (KB β) → Option β) (x0 : Int) (x1 : Bool) (x2 x3 : Int) (kk : T → List (List T) → Option β) :
    uTs P59 [.i x0, .b x1, .i x2, .i x3] (fun a _ => bodyK (mkK Try.prog A B [(76, M76_0 f76_0)] [] (Hn 48).pt []) Try.f48 a kk) = G48_0 A B f76_0 x0 x1 x2 x3 (fun x4 x5 => kk (T.tp true [(tI x4), (tI x5)]) []) := by kernel_rfl
theorem o48_0 {β : Type} (N : Nat) : Snd (β := β) Try.prog Hn 48 (M48_0 (F48_0 re rk N)) := by
  intro a h kk r ha hr
  unfold M48_0 at ha
  split at ha
  · rename_i hs
    cases ha
    have hk := via_pat hs ((e48_0 re rk (F76_0 re rk N) _ _ _ _ kk).trans hr)
    exact fn_ok (f := 48) (fn := Try.f48) (H := Hn) (by kernel_rfl) (show SndAll Try.prog Hn [(76, M76_0 (F76_0 re rk N))] from ⟨o76_0 N, trivial⟩) (spots := []) (by kernel_rfl) trivial hk
  · cases ha
noncomputable def X24_15 : Code := atF Try.f24 [true, true, true, true, false, true, false, false, true, true, false, false, true, true, true, true, true, false, false]
theorem i24_15 : firstReg X24_15 = 15 := by kernel_rfl
def GL24_15_0 {β : Type} (A : Pr) (B : Pk) (l24_15_0 : (Q16 β) → (Q3 β) → Q17 β) (k0 : Q16 β) (k1 : Q3 β) (x0 x1 x2 x3 x4 x5 : Int) (x6 : List R) (x7 x8 : Int) (x9 : List R) (xa xb : Int) (xc : List R) (xd xe : Int) : Option β :=
    match (A.cm .lss xe xd) with
    | true => (match (A.ix xe (A.len xc)) with
      | some xf => (match (B.okE [(Sh.i .i64)] false xc xf) with
        | true => (match (A.cm .lss (B.ci xc xf 0) x7) with
          | true => (k0 2 x0 x1 x2 x3 x4 x5 x6 x9 xa xb)
          | false => (match (A.cm .gtr (B.ci xc xf 0) x8) with
            | true => (k0 2 x0 x1 x2 x3 x4 x5 x6 x9 xa xb)
            | false => (l24_15_0 k0 k1 x0 x1 x2 x3 x4 x5 x6 x7 x8 x9 xa xb xc xd (A.ar .add .i64 xe 1))))
        | false => none)
      | none => none)
    | false => (k1 x0 x1 x2 x3 x4 x5 x6 x9 xa xb)
def L24_15_0 {β : Type} (A : Pr) (B : Pk) (N : Nat) : Nat → (Q16 β) → (Q3 β) → Q17 β
  | 0, _, _, _, _, _, _, _, _, _, _, _, _, _, _, _, _, _ => none
  | n + 1, k0, k1, x0, x1, x2, x3, x4, x5, x6, x7, x8, x9, xa, xb, xc, xd, xe =>
    GL24_15_0 A B (L24_15_0 A B N n) k0 k1 x0 x1 x2 x3 x4 x5 x6 x7 x8 x9 xa xb xc xd xe
def P60 : List PT := [.us 2, pI, (.bx [pI, pI, pI, pI, pI, pI, (.r (.ro 4))]), .us 23, (.r (.ro 5)), pI, pI, .us 46]
def S60 (x0 x1 x2 x3 x4 x5 x6 : Int) (x7 x8 : List R) (x9 xa : Int) : List T := (T.u :: T.u :: (tI x0) :: (T.bx [(tI x1), (tI x2), (tI x3), (tI x4), (tI x5), (tI x6), (T.r (R.ro 4 x7))]) :: T.u :: T.u :: T.u :: T.u :: T.u :: T.u :: T.u :: T.u :: T.u :: T.u :: T.u :: T.u :: T.u :: T.u :: T.u :: T.u :: T.u :: T.u :: T.u :: T.u :: T.u :: T.u :: T.u :: (T.r (R.ro 5 x8)) :: (tI x9) :: (tI xa) :: T.u :: T.u :: T.u :: T.u :: T.u :: T.u :: T.u :: T.u :: T.u :: T.u :: T.u :: T.u :: T.u :: T.u :: T.u :: T.u :: T.u :: T.u :: T.u :: T.u :: T.u :: T.u :: T.u :: T.u :: T.u :: T.u :: T.u :: T.u :: T.u :: T.u :: T.u :: T.u :: T.u :: T.u :: T.u :: T.u :: T.u :: T.u :: T.u :: T.u :: T.u :: T.u :: T.u :: T.u :: T.u :: T.u :: [])
def P61 : List PT := [.us 3, (.bx [pI, pI, pI, pI, pI, pI, (.r (.ro 4))]), .us 23, (.r (.ro 5)), pI, pI, .us 46]
def S61 (x0 x1 x2 x3 x4 x5 : Int) (x6 x7 : List R) (x8 x9 : Int) : List T := (T.u :: T.u :: T.u :: (T.bx [(tI x0), (tI x1), (tI x2), (tI x3), (tI x4), (tI x5), (T.r (R.ro 4 x6))]) :: T.u :: T.u :: T.u :: T.u :: T.u :: T.u :: T.u :: T.u :: T.u :: T.u :: T.u :: T.u :: T.u :: T.u :: T.u :: T.u :: T.u :: T.u :: T.u :: T.u :: T.u :: T.u :: T.u :: (T.r (R.ro 5 x7)) :: (tI x8) :: (tI x9) :: T.u :: T.u :: T.u :: T.u :: T.u :: T.u :: T.u :: T.u :: T.u :: T.u :: T.u :: T.u :: T.u :: T.u :: T.u :: T.u :: T.u :: T.u :: T.u :: T.u :: T.u :: T.u :: T.u :: T.u :: T.u :: T.u :: T.u :: T.u :: T.u :: T.u :: T.u :: T.u :: T.u :: T.u :: T.u :: T.u :: T.u :: T.u :: T.u :: T.u :: T.u :: T.u :: T.u :: T.u :: T.u :: T.u :: [])
def P62 : List PT := [.us 3, (.bx [pI, pI, pI, pI, pI, pI, (.r (.ro 4))]), .us 4, pI, pI, .us 17, (.r (.ro 5)), pI, pI, .us 30, (.r (.ro 1)), pI, pI, .us 13]
noncomputable def M24_15 {β : Type} (l24_15_0 : (Q16 β) → (Q3 β) → Q17 β) (s : List T) : Option ((Ex → List T → Option β) → Option β) :=
  match gTs P62 (clean ((Hn 24).lp 15).1 s) [] with
  | some [.i x0, .i x1, .i x2, .i x3, .i x4, .i x5, .l x6, .i x7, .i x8, .l x9, .i xa, .i xb, .l xc, .i xd, .i xe] => some fun kk => l24_15_0 (fun xf xg xh xi xj xk xl xm xn xo xp => kk Ex.rt (S60 xf xg xh xi xj xk xl xm xn xo xp)) (fun xq xr xs xt xu xv xw xx xy xz => kk (Ex.ex 2) (S61 xq xr xs xt xu xv xw xx xy xz)) x0 x1 x2 x3 x4 x5 x6 x7 x8 x9 xa xb xc xd xe
  | _ => none
theorem e24_15_0 {β : Type} (A : Pr) (B : Pk) (l24_15_0 : (Q16 β) → (Q3 β) → Q17 β) (x0 x1 x2 x3 x4 x5 : Int) (x6 : List R) (x7 x8 : Int) (x9 : List R) (xa xb : Int) (xc : List R) (xd xe : Int) (kk : Ex → List T → Option β) :
    uTs P62 [.i x0, .i x1, .i x2, .i x3, .i x4, .i x5, .l x6, .i x7, .i x8, .l x9, .i xa, .i xb, .l xc, .i xd, .i xe] (fun s _ => evK (mkK Try.prog A B [] [] (Hn 24).pt []) X24_15 s (fun e s' => match e with
      | .nm => (match M24_15 l24_15_0 s' with | some h => h kk | none => none)
      | .ex m => kk (.ex m) (clean ((Hn 24).lp (firstReg X24_15)).2 s')
      | .rt => kk .rt (clean ((Hn 24).lp (firstReg X24_15)).2 s'))) = GL24_15_0 A B l24_15_0 (fun xf xg xh xi xj xk xl xm xn xo xp => kk Ex.rt (S60 xf xg xh xi xj xk xl xm xn xo xp)) (fun xq xr xs xt xu xv xw xx xy xz => kk (Ex.ex 2) (S61 xq xr xs xt xu xv xw xx xy xz)) x0 x1 x2 x3 x4 x5 x6 x7 x8 x9 xa xb xc xd xe := by kernel_rfl
theorem ol24_15 {β : Type} (N : Nat) : ∀ n, SndL (β := β) Try.prog Hn (Hn 24) X24_15 (M24_15 (L24_15_0 re rk N n))
  | 0 => by
    intro s h kk r ha hr
    unfold M24_15 at ha
    split at ha
    · cases ha; cases hr
    · cases ha
  | n + 1 => by
    have ih := ol24_15 (β := β) N n
    intro s h kk r ha hr
    unfold M24_15 at ha
    split at ha
    · rename_i hs
      cases ha
      have hk := via_pat hs ((e24_15_0 re rk (L24_15_0 re rk N n) _ _ _ _ _ _ _ _ _ _ _ _ _ _ _ kk).trans hr)
      exact round_ok (show SndAll Try.prog Hn [] from trivial) (spots := []) (by kernel_rfl) trivial ih (hd := clean ((Hn 24).lp 15).1 s) (by rw [i24_15]) hk
    · cases ha
noncomputable def X24_8 : Code := atF Try.f24 [true, true, true, true, false, true, false, false]
theorem i24_8 : firstReg X24_8 = 8 := by kernel_rfl
def GL24_8_0 {β : Type} (A : Pr) (B : Pk) (f46_0 : Int → Int → Int → Int → List R → (KB β) → Option β) (f47_0 : Int → Int → Int → Int → Int → Int → (K4 β) → Option β) (f48_0 : Int → Bool → Int → Int → (Int → Int → Option β) → Option β) (l24_15_0 : (Q16 β) → (Q3 β) → Q17 β) (l24_8_0 : (KI β) → (Option β) → Q3 β) (k0 : KI β) (k1 : Option β) (x0 x1 x2 x3 x4 x5 : Int) (x6 x7 : List R) (x8 x9 : Int) : Option β :=
    match (A.cm .lss x9 x8) with
    | true => (match (A.ix x9 (A.len x7)) with
      | some xa => (match (B.okE [(Sh.i .i64), (Sh.i .i64), (Sh.i .i64), (Sh.i .i64), (Sh.sl 1 (Sh.i .i64))] true x7 xa) with
        | true => (match (A.ix x9 (A.len x6)) with
          | some xb => (match (B.okE [(Sh.i .i64), Sh.b, (Sh.i .i64), (Sh.i .i64)] true x6 xb) with
            | true => (f46_0 (B.ci x7 xa 0) (B.ci x7 xa 1) (B.ci x7 xa 2) (B.ci x7 xa 3) (B.cl x7 xa 4) (fun xc =>
              match (A.bn xc) with
                | true => (k0 1)
                | false => (f47_0 x0 x1 x2 x3 (B.ci x6 xb 2) (B.ci x6 xb 3) (fun xd xe xf xg =>
                  match (A.bn (A.ba (A.cm .eql (B.ci x7 xa 0) xd) (A.ba (A.cm .eql (B.ci x7 xa 1) xe) (A.ba (A.cm .eql (B.ci x7 xa 2) xf) (A.ba (A.cm .eql (B.ci x7 xa 3) xg) true))))) with
                    | true => (k0 1)
                    | false => (f48_0 (B.ci x6 xb 0) (B.cb x6 xb 1) (B.ci x6 xb 2) (B.ci x6 xb 3) (fun xh xi =>
                      l24_15_0 (fun xj xk xl xm xn xo xp xq xr xs xt =>
                        k0 xj) (fun xu xv xw xx xy xz x10 x11 x12 x13 =>
                        l24_8_0 k0 k1 xu xv xw xx xy xz x10 x11 x12 (A.ar .add .i64 x13 1)) x0 x1 x2 x3 x4 x5 x6 xh xi x7 x8 x9 (B.cl x7 xa 4) (A.on (A.len (B.cl x7 xa 4))) 0))))))
            | false => none)
          | none => none)
        | false => none)
      | none => none)
    | false => k1
def L24_8_0 {β : Type} (A : Pr) (B : Pk) (N : Nat) : Nat → (KI β) → (Option β) → Q3 β
  | 0, _, _, _, _, _, _, _, _, _, _, _, _ => none
  | n + 1, k0, k1, x0, x1, x2, x3, x4, x5, x6, x7, x8, x9 =>
    GL24_8_0 A B (F46_0 A B N) (F47_0 A B N) (F48_0 A B N) (L24_15_0 A B N N) (L24_8_0 A B N n) k0 k1 x0 x1 x2 x3 x4 x5 x6 x7 x8 x9
def P63 : List PT := [.us 2, pI, .us 73]
def S63 (x0 : Int) : List T := (T.u :: T.u :: (tI x0) :: T.u :: T.u :: T.u :: T.u :: T.u :: T.u :: T.u :: T.u :: T.u :: T.u :: T.u :: T.u :: T.u :: T.u :: T.u :: T.u :: T.u :: T.u :: T.u :: T.u :: T.u :: T.u :: T.u :: T.u :: T.u :: T.u :: T.u :: T.u :: T.u :: T.u :: T.u :: T.u :: T.u :: T.u :: T.u :: T.u :: T.u :: T.u :: T.u :: T.u :: T.u :: T.u :: T.u :: T.u :: T.u :: T.u :: T.u :: T.u :: T.u :: T.u :: T.u :: T.u :: T.u :: T.u :: T.u :: T.u :: T.u :: T.u :: T.u :: T.u :: T.u :: T.u :: T.u :: T.u :: T.u :: T.u :: T.u :: T.u :: T.u :: T.u :: T.u :: T.u :: T.u :: [])
def P64 : List PT := [.us 76]
def S64  : List T := (T.u :: T.u :: T.u :: T.u :: T.u :: T.u :: T.u :: T.u :: T.u :: T.u :: T.u :: T.u :: T.u :: T.u :: T.u :: T.u :: T.u :: T.u :: T.u :: T.u :: T.u :: T.u :: T.u :: T.u :: T.u :: T.u :: T.u :: T.u :: T.u :: T.u :: T.u :: T.u :: T.u :: T.u :: T.u :: T.u :: T.u :: T.u :: T.u :: T.u :: T.u :: T.u :: T.u :: T.u :: T.u :: T.u :: T.u :: T.u :: T.u :: T.u :: T.u :: T.u :: T.u :: T.u :: T.u :: T.u :: T.u :: T.u :: T.u :: T.u :: T.u :: T.u :: T.u :: T.u :: T.u :: T.u :: T.u :: T.u :: T.u :: T.u :: T.u :: T.u :: T.u :: T.u :: T.u :: T.u :: [])
noncomputable def M24_8 {β : Type} (l24_8_0 : (KI β) → (Option β) → Q3 β) (s : List T) : Option ((Ex → List T → Option β) → Option β) :=
  match gTs P61 (clean ((Hn 24).lp 8).1 s) [] with
  | some [.i x0, .i x1, .i x2, .i x3, .i x4, .i x5, .l x6, .l x7, .i x8, .i x9] => some fun kk => l24_8_0 (fun xa => kk Ex.rt (S63 xa)) (kk (Ex.ex 0) (S64)) x0 x1 x2 x3 x4 x5 x6 x7 x8 x9
  | _ => none
theorem e24_8_0 {β : Type} (A : Pr) (B : Pk) (f46_0 : Int → Int → Int → Int → List R → (KB β) → Option β) (f47_0 : Int → Int → Int → Int → Int → Int → (K4 β) → Option β) (f48_0 : Int → Bool → Int → Int → (Int → Int → Option β) → Option β) (l24_15_0 : (Q16 β) → (Q3 β) → Q17 β) (l24_8_0 : (KI β) → (Option β) → Q3 β) (x0 x1 x2 x3 x4 x5 : Int) (x6 x7 : List R) (x8 x9 : Int) (kk : Ex → List T → Option β) :
    uTs P61 [.i x0, .i x1, .i x2, .i x3, .i x4, .i x5, .l x6, .l x7, .i x8, .i x9] (fun s _ => evK (mkK Try.prog A B [(46, M46_0 f46_0), (47, M47_0 f47_0), (48, M48_0 f48_0)] [(15, M24_15 l24_15_0)] (Hn 24).pt []) X24_8 s (fun e s' => match e with
      | .nm => (match M24_8 l24_8_0 s' with | some h => h kk | none => none)
      | .ex m => kk (.ex m) (clean ((Hn 24).lp (firstReg X24_8)).2 s')
      | .rt => kk .rt (clean ((Hn 24).lp (firstReg X24_8)).2 s'))) = GL24_8_0 A B f46_0 f47_0 f48_0 l24_15_0 l24_8_0 (fun xa => kk Ex.rt (S63 xa)) (kk (Ex.ex 0) (S64)) x0 x1 x2 x3 x4 x5 x6 x7 x8 x9 := by kernel_rfl
theorem ol24_8 {β : Type} (N : Nat) : ∀ n, SndL (β := β) Try.prog Hn (Hn 24) X24_8 (M24_8 (L24_8_0 re rk N n))
  | 0 => by
    intro s h kk r ha hr
    unfold M24_8 at ha
    split at ha
    · cases ha; cases hr
    · cases ha
  | n + 1 => by
    have ih := ol24_8 (β := β) N n
    intro s h kk r ha hr
    unfold M24_8 at ha
    split at ha
    · rename_i hs
      cases ha
      have hk := via_pat hs ((e24_8_0 re rk (F46_0 re rk N) (F47_0 re rk N) (F48_0 re rk N) (L24_15_0 re rk N N) (L24_8_0 re rk N n) _ _ _ _ _ _ _ _ _ _ kk).trans hr)
      exact round_ok (show SndAll Try.prog Hn [(46, M46_0 (F46_0 re rk N)), (47, M47_0 (F47_0 re rk N)), (48, M48_0 (F48_0 re rk N))] from ⟨o46_0 N, o47_0 N, o48_0 N, trivial⟩) (spots := [.lp X24_15]) (by kernel_rfl) ⟨cut_lp (id := 15) i24_15 (ol24_15 N N) (fun s kk => by kernel_rfl), trivial⟩ ih (hd := clean ((Hn 24).lp 8).1 s) (by rw [i24_8]) hk
    · cases ha
def G24_0 {β : Type} (A : Pr) (B : Pk) (f45_0 : Int → Int → Int → Int → Int → Int → List R → (KI β) → Option β) (l24_8_0 : (KI β) → (Option β) → Q3 β) (x0 x1 x2 x3 x4 x5 : Int) (x6 x7 : List R) (k0 : KI β) : Option β :=
    f45_0 x0 x1 x2 x3 x4 x5 x6 (fun x8 =>
    match (A.cm .neq x8 0) with
      | true => (k0 x8)
      | false => (match (A.cm .neq (A.on (A.len x7)) (A.on (A.len x6))) with
        | true => (k0 4)
        | false => (l24_8_0 (fun x9 =>
          k0 x9) (k0 0) x0 x1 x2 x3 x4 x5 x6 x7 (A.on (A.len x7)) 0)))
def F24_0 {β : Type} (A : Pr) (B : Pk) (N : Nat) (x0 x1 x2 x3 x4 x5 : Int) (x6 x7 : List R) (k0 : KI β) : Option β :=
  G24_0 A B (F45_0 A B N) (L24_8_0 A B N N) x0 x1 x2 x3 x4 x5 x6 x7 k0
def P65 : List PT := [(.r (.a [(.i .i64), (.i .i64), (.i .i64), (.i .i64), (.i .i64), (.i .i64), (.ro 4), (.ro 5)]))]
def M24_0 {β : Type} (f24_0 : Int → Int → Int → Int → Int → Int → List R → List R → (KI β) → Option β) (a : List T) : Option ((T → List (List T) → Option β) → Option β) :=
  match gTs P65 a [] with
  | some [.i x0, .i x1, .i x2, .i x3, .i x4, .i x5, .l x6, .l x7] => some fun kk => f24_0 x0 x1 x2 x3 x4 x5 x6 x7 (fun x8 => kk (tI x8) [])
  | _ => none
theorem e24_0 {β : Type} (A : Pr) (B : Pk) (f45_0 : Int → Int → Int → Int → Int → Int → List R → (KI β) → Option β) (l24_8_0 : (KI β) → (Option β) → Q3 β) (x0 x1 x2 x3 x4 x5 : Int) (x6 x7 : List R) (kk : T → List (List T) → Option β) :
    uTs P65 [.i x0, .i x1, .i x2, .i x3, .i x4, .i x5, .l x6, .l x7] (fun a _ => bodyK (mkK Try.prog A B [(45, M45_0 f45_0)] [(8, M24_8 l24_8_0)] (Hn 24).pt []) Try.f24 a kk) = G24_0 A B f45_0 l24_8_0 x0 x1 x2 x3 x4 x5 x6 x7 (fun x8 => kk (tI x8) []) := by kernel_rfl
theorem o24_0 {β : Type} (N : Nat) : Snd (β := β) Try.prog Hn 24 (M24_0 (F24_0 re rk N)) := by
  intro a h kk r ha hr
  unfold M24_0 at ha
  split at ha
  · rename_i hs
    cases ha
    have hk := via_pat hs ((e24_0 re rk (F45_0 re rk N) (L24_8_0 re rk N N) _ _ _ _ _ _ _ _ kk).trans hr)
    exact fn_ok (f := 24) (fn := Try.f24) (H := Hn) (by kernel_rfl) (show SndAll Try.prog Hn [(45, M45_0 (F45_0 re rk N))] from ⟨o45_0 N, trivial⟩) (spots := [.lp X24_8]) (by kernel_rfl) ⟨cut_lp (id := 8) i24_8 (ol24_8 N N) (fun s kk => by kernel_rfl), trivial⟩ hk
  · cases ha
def G100_0 {β : Type} (A : Pr) (B : Pk) (f62_0 : Int → Int → Int → Int → (KB β) → Option β) (f60_0 : Int → Int → Int → Int → Int → Int → Int → Int → (K4 β) → Option β) (x0 x1 x2 x3 x4 x5 x6 x7 : Int) (k0 : KB β) : Option β :=
    f62_0 x4 x5 x6 x7 (fun x8 =>
    match x8 with
      | true => (k0 true)
      | false => (f60_0 x0 x1 x2 x3 x4 x5 x6 x7 (fun x9 xa xb xc =>
        k0 (A.ba (A.cm .eql x9 x4) (A.ba (A.cm .eql xa x5) (A.ba (A.cm .eql xb x6) (A.ba (A.cm .eql xc x7) true)))))))
def F100_0 {β : Type} (A : Pr) (B : Pk) (N : Nat) (x0 x1 x2 x3 x4 x5 x6 x7 : Int) (k0 : KB β) : Option β :=
  G100_0 A B (F62_0 A B N) (F60_0 A B N) x0 x1 x2 x3 x4 x5 x6 x7 k0
def M100_0 {β : Type} (f100_0 : Int → Int → Int → Int → Int → Int → Int → Int → (KB β) → Option β) (a : List T) : Option ((T → List (List T) → Option β) → Option β) :=
  match gTs P11 a [] with
  | some [.i x0, .i x1, .i x2, .i x3, .i x4, .i x5, .i x6, .i x7] => some fun kk => f100_0 x0 x1 x2 x3 x4 x5 x6 x7 (fun x8 => kk (tB x8) [])
  | _ => none
theorem e100_0 {β : Type} (A : Pr) (B : Pk) (f62_0 : Int → Int → Int → Int → (KB β) → Option β) (f60_0 : Int → Int → Int → Int → Int → Int → Int → Int → (K4 β) → Option β) (x0 x1 x2 x3 x4 x5 x6 x7 : Int) (kk : T → List (List T) → Option β) :
    uTs P11 [.i x0, .i x1, .i x2, .i x3, .i x4, .i x5, .i x6, .i x7] (fun a _ => bodyK (mkK Try.prog A B [(62, M62_0 f62_0), (60, M60_0 f60_0)] [] (Hn 100).pt []) Try.f100 a kk) = G100_0 A B f62_0 f60_0 x0 x1 x2 x3 x4 x5 x6 x7 (fun x8 => kk (tB x8) []) := by kernel_rfl
theorem o100_0 {β : Type} (N : Nat) : Snd (β := β) Try.prog Hn 100 (M100_0 (F100_0 re rk N)) := by
  intro a h kk r ha hr
  unfold M100_0 at ha
  split at ha
  · rename_i hs
    cases ha
    have hk := via_pat hs ((e100_0 re rk (F62_0 re rk N) (F60_0 re rk N) _ _ _ _ _ _ _ _ kk).trans hr)
    exact fn_ok (f := 100) (fn := Try.f100) (H := Hn) (by kernel_rfl) (show SndAll Try.prog Hn [(62, M62_0 (F62_0 re rk N)), (60, M60_0 (F60_0 re rk N))] from ⟨o62_0 N, o60_0 N, trivial⟩) (spots := []) (by kernel_rfl) trivial hk
  · cases ha
def G121_0 {β : Type} (A : Pr) (B : Pk) (x0 x1 x2 x3 : Int) (x4 : List R) (k0 : KI β) : Option β :=
    k0 (A.ar .sub .i64 x2 x0)
def F121_0 {β : Type} (A : Pr) (B : Pk) (N : Nat) (x0 x1 x2 x3 : Int) (x4 : List R) (k0 : KI β) : Option β :=
  G121_0 A B  x0 x1 x2 x3 x4 k0
def M121_0 {β : Type} (f121_0 : Int → Int → Int → Int → List R → (KI β) → Option β) (a : List T) : Option ((T → List (List T) → Option β) → Option β) :=
  match gTs P58 a [] with
  | some [.i x0, .i x1, .i x2, .i x3, .l x4] => some fun kk => f121_0 x0 x1 x2 x3 x4 (fun x5 => kk (tI x5) [])
  | _ => none
theorem e121_0 {β : Type} (A : Pr) (B : Pk) (x0 x1 x2 x3 : Int) (x4 : List R) (kk : T → List (List T) → Option β) :
    uTs P58 [.i x0, .i x1, .i x2, .i x3, .l x4] (fun a _ => bodyK (mkK Try.prog A B [] [] (Hn 121).pt []) Try.f121 a kk) = G121_0 A B  x0 x1 x2 x3 x4 (fun x5 => kk (tI x5) []) := by kernel_rfl
theorem o121_0 {β : Type} (N : Nat) : Snd (β := β) Try.prog Hn 121 (M121_0 (F121_0 re rk N)) := by
  intro a h kk r ha hr
  unfold M121_0 at ha
  split at ha
  · rename_i hs
    cases ha
    have hk := via_pat hs ((e121_0 re rk  _ _ _ _ _ kk).trans hr)
    exact fn_ok (f := 121) (fn := Try.f121) (H := Hn) (by kernel_rfl) (show SndAll Try.prog Hn [] from trivial) (spots := []) (by kernel_rfl) trivial hk
  · cases ha
noncomputable def X101_2 : Code := atF Try.f101 [true, true, false, false]
theorem i101_2 : firstReg X101_2 = 2 := by kernel_rfl
def GL101_2_0 {β : Type} (A : Pr) (B : Pk) (f121_0 : Int → Int → Int → Int → List R → (KI β) → Option β) (l101_2_0 : (Int → Int → Int → Int → List R → Option β) → Q18 β) (k0 : Int → Int → Int → Int → List R → Option β) (x0 x1 x2 x3 : Int) (x4 : List R) (x5 x6 x7 x8 x9 xa xb xc : Int) (xd : List R) (xe xf xg xh xi : Int) : Option β :=
    match (A.cm .lss xi xh) with
    | true => (f121_0 x5 x6 x7 x8 x4 (fun xj =>
      f121_0 x9 xa xb xc xd (fun xk =>
        match (A.sx (A.ar .sub .i64 (A.ar .add .i64 (A.ar .sub .i64 (A.ar .add .i64 (A.ar .mul .i64 (A.ar .sub .i64 xi x6) xj) xe) x5) xg) xe) (A.len x4)) with
          | some xl => (match (A.sx (A.ar .sub .i64 (A.ar .add .i64 (A.ar .mul .i64 (A.ar .sub .i64 xi x6) xj) xe) x5) xl) with
            | some xm => (match (A.sx (A.ar .sub .i64 (A.ar .add .i64 (A.ar .sub .i64 (A.ar .add .i64 (A.ar .mul .i64 (A.ar .sub .i64 xi xa) xk) xe) x9) xg) xe) (A.len xd)) with
              | some xn => (match (A.sx (A.ar .sub .i64 (A.ar .add .i64 (A.ar .mul .i64 (A.ar .sub .i64 xi xa) xk) xe) x9) xn) with
                | some xo => (l101_2_0 k0 x0 x1 x2 x3 (A.spl x4 xm (A.seg (A.seg xd xo (A.sub xn xo)) 0 (A.nmn (A.len (A.seg xd xo (A.sub xn xo))) (A.sub xl xm)))) x5 x6 x7 x8 x9 xa xb xc xd xe xf xg xh (A.ar .add .i64 xi 1))
                | none => none)
              | none => none)
            | none => none)
          | none => none)))
    | false => (k0 x0 x1 x2 x3 x4)
def L101_2_0 {β : Type} (A : Pr) (B : Pk) (N : Nat) : Nat → (Int → Int → Int → Int → List R → Option β) → Q18 β
  | 0, _, _, _, _, _, _, _, _, _, _, _, _, _, _, _, _, _, _, _, _ => none
  | n + 1, k0, x0, x1, x2, x3, x4, x5, x6, x7, x8, x9, xa, xb, xc, xd, xe, xf, xg, xh, xi =>
    GL101_2_0 A B (F121_0 A B N) (L101_2_0 A B N n) k0 x0 x1 x2 x3 x4 x5 x6 x7 x8 x9 xa xb xc xd xe xf xg xh xi
def P66 : List PT := [(.a [pI, pI, pI, pI, (.own true 1)]), .us 69]
def S66 (x0 x1 x2 x3 : Int) (x4 : List R) : List T := ((T.a [(tI x0), (tI x1), (tI x2), (tI x3), (T.own true 1 x4)]) :: T.u :: T.u :: T.u :: T.u :: T.u :: T.u :: T.u :: T.u :: T.u :: T.u :: T.u :: T.u :: T.u :: T.u :: T.u :: T.u :: T.u :: T.u :: T.u :: T.u :: T.u :: T.u :: T.u :: T.u :: T.u :: T.u :: T.u :: T.u :: T.u :: T.u :: T.u :: T.u :: T.u :: T.u :: T.u :: T.u :: T.u :: T.u :: T.u :: T.u :: T.u :: T.u :: T.u :: T.u :: T.u :: T.u :: T.u :: T.u :: T.u :: T.u :: T.u :: T.u :: T.u :: T.u :: T.u :: T.u :: T.u :: T.u :: T.u :: T.u :: T.u :: T.u :: T.u :: T.u :: T.u :: T.u :: T.u :: T.u :: T.u :: [])
def P67 : List PT := [(.a [pI, pI, pI, pI, (.own true 1)]), .us 2, (.bx [pI, pI, pI, pI, (.v 0 [(.t (.lit 4))] 1 none)]), (.bx [pI, pI, pI, pI, (.r (.ro 1))]), (.bx [pI, pI, pI, pI]), pI, .us 63]
noncomputable def M101_2 {β : Type} (l101_2_0 : (Int → Int → Int → Int → List R → Option β) → Q18 β) (s : List T) : Option ((Ex → List T → Option β) → Option β) :=
  match gTs P67 (clean ((Hn 101).lp 2).1 s) [] with
  | some [.i x0, .i x1, .i x2, .i x3, .l x4, .i x5, .i x6, .i x7, .i x8, .i x9, .i xa, .i xb, .i xc, .l xd, .i xe, .i xf, .i xg, .i xh, .i xi] => some fun kk => l101_2_0 (fun xj xk xl xm xn => kk (Ex.ex 0) (S66 xj xk xl xm xn)) x0 x1 x2 x3 x4 x5 x6 x7 x8 x9 xa xb xc xd xe xf xg xh xi
  | _ => none
theorem e101_2_0 {β : Type} (A : Pr) (B : Pk) (f121_0 : Int → Int → Int → Int → List R → (KI β) → Option β) (l101_2_0 : (Int → Int → Int → Int → List R → Option β) → Q18 β) (x0 x1 x2 x3 : Int) (x4 : List R) (x5 x6 x7 x8 x9 xa xb xc : Int) (xd : List R) (xe xf xg xh xi : Int) (kk : Ex → List T → Option β) :
    uTs P67 [.i x0, .i x1, .i x2, .i x3, .l x4, .i x5, .i x6, .i x7, .i x8, .i x9, .i xa, .i xb, .i xc, .l xd, .i xe, .i xf, .i xg, .i xh, .i xi] (fun s _ => evK (mkK Try.prog A B [(121, M121_0 f121_0)] [] (Hn 101).pt []) X101_2 s (fun e s' => match e with
      | .nm => (match M101_2 l101_2_0 s' with | some h => h kk | none => none)
      | .ex m => kk (.ex m) (clean ((Hn 101).lp (firstReg X101_2)).2 s')
      | .rt => kk .rt (clean ((Hn 101).lp (firstReg X101_2)).2 s'))) = GL101_2_0 A B f121_0 l101_2_0 (fun xj xk xl xm xn => kk (Ex.ex 0) (S66 xj xk xl xm xn)) x0 x1 x2 x3 x4 x5 x6 x7 x8 x9 xa xb xc xd xe xf xg xh xi := by kernel_rfl
theorem ol101_2 {β : Type} (N : Nat) : ∀ n, SndL (β := β) Try.prog Hn (Hn 101) X101_2 (M101_2 (L101_2_0 re rk N n))
  | 0 => by
    intro s h kk r ha hr
    unfold M101_2 at ha
    split at ha
    · cases ha; cases hr
    · cases ha
  | n + 1 => by
    have ih := ol101_2 (β := β) N n
    intro s h kk r ha hr
    unfold M101_2 at ha
    split at ha
    · rename_i hs
      cases ha
      have hk := via_pat hs ((e101_2_0 re rk (F121_0 re rk N) (L101_2_0 re rk N n) _ _ _ _ _ _ _ _ _ _ _ _ _ _ _ _ _ _ _ kk).trans hr)
      exact round_ok (show SndAll Try.prog Hn [(121, M121_0 (F121_0 re rk N))] from ⟨o121_0 N, trivial⟩) (spots := []) (by kernel_rfl) trivial ih (hd := clean ((Hn 101).lp 2).1 s) (by rw [i101_2]) hk
    · cases ha
def G101_0 {β : Type} (A : Pr) (B : Pk) (l101_2_0 : (Int → Int → Int → Int → List R → Option β) → Q18 β) (x0 x1 x2 x3 : Int) (x4 : List R) (x5 x6 x7 x8 : Int) (x9 : List R) (xa xb xc xd : Int) (k0 : Int → Int → Int → Int → List R → Option β) : Option β :=
    l101_2_0 (fun xe xf xg xh xi =>
    k0 xe xf xg xh xi) x0 x1 x2 x3 x4 x0 x1 x2 x3 x5 x6 x7 x8 x9 xa xb xc xd xb
def F101_0 {β : Type} (A : Pr) (B : Pk) (N : Nat) (x0 x1 x2 x3 : Int) (x4 : List R) (x5 x6 x7 x8 : Int) (x9 : List R) (xa xb xc xd : Int) (k0 : Int → Int → Int → Int → List R → Option β) : Option β :=
  G101_0 A B (L101_2_0 A B N N) x0 x1 x2 x3 x4 x5 x6 x7 x8 x9 xa xb xc xd k0
def P68 : List PT := [(.a [pI, pI, pI, pI, (.own true 1)]), (.r (.a [(.i .i64), (.i .i64), (.i .i64), (.i .i64), (.ro 1)])), (.r (.a [(.i .i64), (.i .i64), (.i .i64), (.i .i64)]))]
def M101_0 {β : Type} (f101_0 : Int → Int → Int → Int → List R → Int → Int → Int → Int → List R → Int → Int → Int → Int → (Int → Int → Int → Int → List R → Option β) → Option β) (a : List T) : Option ((T → List (List T) → Option β) → Option β) :=
  match gTs P68 a [] with
  | some [.i x0, .i x1, .i x2, .i x3, .l x4, .i x5, .i x6, .i x7, .i x8, .l x9, .i xa, .i xb, .i xc, .i xd] => some fun kk => f101_0 x0 x1 x2 x3 x4 x5 x6 x7 x8 x9 xa xb xc xd (fun xe xf xg xh xi => kk (T.tp true []) [[(tI xe), (tI xf), (tI xg), (tI xh), (T.own true 1 xi)]])
  | _ => none
theorem e101_0 {β : Type} (A : Pr) (B : Pk) (l101_2_0 : (Int → Int → Int → Int → List R → Option β) → Q18 β) (x0 x1 x2 x3 : Int) (x4 : List R) (x5 x6 x7 x8 : Int) (x9 : List R) (xa xb xc xd : Int) (kk : T → List (List T) → Option β) :
    uTs P68 [.i x0, .i x1, .i x2, .i x3, .l x4, .i x5, .i x6, .i x7, .i x8, .l x9, .i xa, .i xb, .i xc, .i xd] (fun a _ => bodyK (mkK Try.prog A B [] [(2, M101_2 l101_2_0)] (Hn 101).pt []) Try.f101 a kk) = G101_0 A B l101_2_0 x0 x1 x2 x3 x4 x5 x6 x7 x8 x9 xa xb xc xd (fun xe xf xg xh xi => kk (T.tp true []) [[(tI xe), (tI xf), (tI xg), (tI xh), (T.own true 1 xi)]]) := by kernel_rfl
theorem o101_0 {β : Type} (N : Nat) : Snd (β := β) Try.prog Hn 101 (M101_0 (F101_0 re rk N)) := by
  intro a h kk r ha hr
  unfold M101_0 at ha
  split at ha
  · rename_i hs
    cases ha
    have hk := via_pat hs ((e101_0 re rk (L101_2_0 re rk N N) _ _ _ _ _ _ _ _ _ _ _ _ _ _ kk).trans hr)
    exact fn_ok (f := 101) (fn := Try.f101) (H := Hn) (by kernel_rfl) (show SndAll Try.prog Hn [] from trivial) (spots := [.lp X101_2]) (by kernel_rfl) ⟨cut_lp (id := 2) i101_2 (ol101_2 N N) (fun s kk => by kernel_rfl), trivial⟩ hk
  · cases ha
def G69_0 {β : Type} (A : Pr) (B : Pk) (f46_0 : Int → Int → Int → Int → List R → (KB β) → Option β) (f61_0 : Int → Int → Int → Int → (KB β) → Option β) (f100_0 : Int → Int → Int → Int → Int → Int → Int → Int → (KB β) → Option β) (f75_0 : Int → Int → Int → Int → (KI β) → Option β) (f62_0 : Int → Int → Int → Int → (KB β) → Option β) (f101_0 : Int → Int → Int → Int → List R → Int → Int → Int → Int → List R → Int → Int → Int → Int → (Int → Int → Int → Int → List R → Option β) → Option β) (x0 x1 x2 x3 : Int) (x4 : List R) (x5 x6 x7 x8 : Int) (k0 : Int → Int → Int → Int → Int → Option β) (k1 : Int → Int → Int → Int → List R → Int → Option β) : Option β :=
    f46_0 x0 x1 x2 x3 x4 (fun x9 =>
    match (A.bn x9) with
      | true => (k0 0 0 0 0 1)
      | false => (f61_0 x5 x6 x7 x8 (fun xa =>
        match (A.bn xa) with
          | true => (k0 0 0 0 0 2)
          | false => (f100_0 x0 x1 x2 x3 x5 x6 x7 x8 (fun xb =>
            match (A.bn xb) with
              | true => (k0 0 0 0 0 2)
              | false => (f75_0 x5 x6 x7 x8 (fun xc =>
                match (A.mkn xc 8) with
                  | some xd => (match (A.sx xc xd) with
                    | some xe => (f62_0 x5 x6 x7 x8 (fun xf =>
                      match (A.bn xf) with
                        | true => (f101_0 x5 x6 x7 x8 (A.rep xe (R.i .i64 0)) x0 x1 x2 x3 x4 x5 x6 x7 x8 (fun xg xh xi xj xk =>
                          k1 x5 x6 x7 x8 xk 0))
                        | false => (k1 x5 x6 x7 x8 (A.rep xe (R.i .i64 0)) 0)))
                    | none => none)
                  | none => none)))))))
def F69_0 {β : Type} (A : Pr) (B : Pk) (N : Nat) (x0 x1 x2 x3 : Int) (x4 : List R) (x5 x6 x7 x8 : Int) (k0 : Int → Int → Int → Int → Int → Option β) (k1 : Int → Int → Int → Int → List R → Int → Option β) : Option β :=
  G69_0 A B (F46_0 A B N) (F61_0 A B N) (F100_0 A B N) (F75_0 A B N) (F62_0 A B N) (F101_0 A B N) x0 x1 x2 x3 x4 x5 x6 x7 x8 k0 k1
def P69 : List PT := [(.r (.a [(.i .i64), (.i .i64), (.i .i64), (.i .i64), (.ro 1)])), (.r (.a [(.i .i64), (.i .i64), (.i .i64), (.i .i64)]))]
def M69_0 {β : Type} (f69_0 : Int → Int → Int → Int → List R → Int → Int → Int → Int → (Int → Int → Int → Int → Int → Option β) → (Int → Int → Int → Int → List R → Int → Option β) → Option β) (a : List T) : Option ((T → List (List T) → Option β) → Option β) :=
  match gTs P69 a [] with
  | some [.i x0, .i x1, .i x2, .i x3, .l x4, .i x5, .i x6, .i x7, .i x8] => some fun kk => f69_0 x0 x1 x2 x3 x4 x5 x6 x7 x8 (fun x9 xa xb xc xd => kk (T.tp true [(T.tp false [(tI x9), (tI xa), (tI xb), (tI xc), (T.r R.sn)]), (tI xd)]) []) (fun xe xf xg xh xi xj => kk (T.tp true [(T.tp false [(tI xe), (tI xf), (tI xg), (tI xh), (T.own true 1 xi)]), (tI xj)]) [])
  | _ => none
theorem e69_0 {β : Type} (A : Pr) (B : Pk) (f46_0 : Int → Int → Int → Int → List R → (KB β) → Option β) (f61_0 : Int → Int → Int → Int → (KB β) → Option β) (f100_0 : Int → Int → Int → Int → Int → Int → Int → Int → (KB β) → Option β) (f75_0 : Int → Int → Int → Int → (KI β) → Option β) (f62_0 : Int → Int → Int → Int → (KB β) → Option β) (f101_0 : Int → Int → Int → Int → List R → Int → Int → Int → Int → List R → Int → Int → Int → Int → (Int → Int → Int → Int → List R → Option β) → Option β) (x0 x1 x2 x3 : Int) (x4 : List R) (x5 x6 x7 x8 : Int) (kk : T → List (List T) → Option β) :
    uTs P69 [.i x0, .i x1, .i x2, .i x3, .l x4, .i x5, .i x6, .i x7, .i x8] (fun a _ => bodyK (mkK Try.prog A B [(46, M46_0 f46_0), (61, M61_0 f61_0), (100, M100_0 f100_0), (75, M75_0 f75_0), (62, M62_0 f62_0), (101, M101_0 f101_0)] [] (Hn 69).pt []) Try.f69 a kk) = G69_0 A B f46_0 f61_0 f100_0 f75_0 f62_0 f101_0 x0 x1 x2 x3 x4 x5 x6 x7 x8 (fun x9 xa xb xc xd => kk (T.tp true [(T.tp false [(tI x9), (tI xa), (tI xb), (tI xc), (T.r R.sn)]), (tI xd)]) []) (fun xe xf xg xh xi xj => kk (T.tp true [(T.tp false [(tI xe), (tI xf), (tI xg), (tI xh), (T.own true 1 xi)]), (tI xj)]) []) := by kernel_rfl
theorem o69_0 {β : Type} (N : Nat) : Snd (β := β) Try.prog Hn 69 (M69_0 (F69_0 re rk N)) := by
  intro a h kk r ha hr
  unfold M69_0 at ha
  split at ha
  · rename_i hs
    cases ha
    have hk := via_pat hs ((e69_0 re rk (F46_0 re rk N) (F61_0 re rk N) (F100_0 re rk N) (F75_0 re rk N) (F62_0 re rk N) (F101_0 re rk N) _ _ _ _ _ _ _ _ _ kk).trans hr)
    exact fn_ok (f := 69) (fn := Try.f69) (H := Hn) (by kernel_rfl) (show SndAll Try.prog Hn [(46, M46_0 (F46_0 re rk N)), (61, M61_0 (F61_0 re rk N)), (100, M100_0 (F100_0 re rk N)), (75, M75_0 (F75_0 re rk N)), (62, M62_0 (F62_0 re rk N)), (101, M101_0 (F101_0 re rk N))] from ⟨o46_0 N, o61_0 N, o100_0 N, o75_0 N, o62_0 N, o101_0 N, trivial⟩) (spots := []) (by kernel_rfl) trivial hk
  · cases ha
noncomputable def X36_10 : Code := atF Try.f36 [true, true, true, true, true, true, false, true, false, false]
theorem i36_10 : firstReg X36_10 = 10 := by kernel_rfl
def GL36_10_0 {β : Type} (A : Pr) (B : Pk) (f47_0 : Int → Int → Int → Int → Int → Int → (K4 β) → Option β) (f62_0 : Int → Int → Int → Int → (KB β) → Option β) (f69_0 : Int → Int → Int → Int → List R → Int → Int → Int → Int → (Int → Int → Int → Int → Int → Option β) → (Int → Int → Int → Int → List R → Int → Option β) → Option β) (l36_10_0 : (Q19 β) → (Q20 β) → (Q21 β) → (Q22 β) → Q23 β) (l36_10_1 : (Q19 β) → (Q20 β) → (Q21 β) → (Q22 β) → Q24 β) (k0 : Q19 β) (k1 : Q20 β) (k2 : Q21 β) (k3 : Q22 β) (x0 x1 x2 x3 x4 x5 : Int) (x6 x7 : List R) (x8 x9 xa xb xc xd xe xf xg xh xi xj xk xl xm xn xo xp xq xr xs xt xu xv : Int) (xw : List R) (xx xy xz x10 x11 : Int) (x12 : List R) (x13 x14 : Int) (x15 x16 x17 x18 x19 x1a x1b x1c : Bool) (x1d : List R) (x1e x1f x1g x1h : Int) : Option β :=
    match (A.cm .lss x1h x1g) with
    | true => (match (A.ix x1h (A.len xw)) with
      | some x1i => (match (B.okC [(Sh.i .i64), Sh.b, (Sh.i .i64), (Sh.i .i64)] xw x1i 0) with
        | true => (f47_0 xe xf xg xh (B.ci xw x1i 2) (B.ci xw x1i 3) (fun x1j x1k x1l x1m =>
          f62_0 x1j x1k x1l x1m (fun x1n =>
            match x1n with
              | true => (k0 0 0 0 0 0 0 2 xk xl xm xn xo xp xq xr xs xt xu xv xw xx xy xz x10 x11 x12 x13 x14 x15 x16 x17 x18 x19 x1a x1b x1c x1d x1e x1f)
              | false => (match (A.ix x1h (A.len x7)) with
                | some x1o => (match (B.okE [(Sh.i .i64), (Sh.i .i64), (Sh.i .i64), (Sh.i .i64), (Sh.sl 1 (Sh.i .i64))] true x7 x1o) with
                  | true => (f69_0 (B.ci x7 x1o 0) (B.ci x7 x1o 1) (B.ci x7 x1o 2) (B.ci x7 x1o 3) (B.cl x7 x1o 4) x1j x1k x1l x1m (fun x1p x1q x1r x1s x1t =>
                    match (A.cm .neq x1t 0) with
                      | true => (k0 0 0 0 0 0 0 x1t xk xl xm xn xo xp xq xr xs xt xu xv xw xx xy xz x10 x11 x12 x13 x14 x15 x16 x17 x18 x19 x1a x1b x1c x1d x1e x1f)
                      | false => (match (A.small (A.len [(R.a [(R.i .i64 x1p), (R.i .i64 x1q), (R.i .i64 x1r), (R.i .i64 x1s), R.sn])]) 56) with
                        | true => (l36_10_1 k0 k1 k2 k3 x0 x1 x2 x3 x4 x5 x6 x7 x8 x9 xa xb xc xd xe xf xg xh xi xj xk xl xm xn xo xp xq xr xs xt xu xv xw xx xy xz x10 x11 x12 x13 x14 x15 x16 x17 x18 x19 x1a x1b x1c x1d x1e x1f x1g (A.ar .add .i64 x1h 1) [(R.a [(R.i .i64 x1p), (R.i .i64 x1q), (R.i .i64 x1r), (R.i .i64 x1s), R.sn])])
                        | false => none)) (fun x1u x1v x1w x1x x1y x1z =>
                    match (A.cm .neq x1z 0) with
                      | true => (k0 0 0 0 0 0 0 x1z xk xl xm xn xo xp xq xr xs xt xu xv xw xx xy xz x10 x11 x12 x13 x14 x15 x16 x17 x18 x19 x1a x1b x1c x1d x1e x1f)
                      | false => (match (A.small (A.len [(R.a [(R.i .i64 x1u), (R.i .i64 x1v), (R.i .i64 x1w), (R.i .i64 x1x), (R.ro 1 x1y)])]) 56) with
                        | true => (l36_10_1 k0 k1 k2 k3 x0 x1 x2 x3 x4 x5 x6 x7 x8 x9 xa xb xc xd xe xf xg xh xi xj xk xl xm xn xo xp xq xr xs xt xu xv xw xx xy xz x10 x11 x12 x13 x14 x15 x16 x17 x18 x19 x1a x1b x1c x1d x1e x1f x1g (A.ar .add .i64 x1h 1) [(R.a [(R.i .i64 x1u), (R.i .i64 x1v), (R.i .i64 x1w), (R.i .i64 x1x), (R.ro 1 x1y)])])
                        | false => none)))
                  | false => none)
                | none => none))))
        | false => none)
      | none => none)
    | false => (k1 x8 x9 xa xb xc xd xk xl xm xn xo xp xq xr xs xt xu xv xw xx xy xz x10 x11 x12 x13 x14 x15 x16 x17 x18 x19 x1a x1b x1c x1d x1e x1f)
def GL36_10_1 {β : Type} (A : Pr) (B : Pk) (f47_0 : Int → Int → Int → Int → Int → Int → (K4 β) → Option β) (f62_0 : Int → Int → Int → Int → (KB β) → Option β) (f69_0 : Int → Int → Int → Int → List R → Int → Int → Int → Int → (Int → Int → Int → Int → Int → Option β) → (Int → Int → Int → Int → List R → Int → Option β) → Option β) (l36_10_0 : (Q19 β) → (Q20 β) → (Q21 β) → (Q22 β) → Q23 β) (l36_10_1 : (Q19 β) → (Q20 β) → (Q21 β) → (Q22 β) → Q24 β) (k0 : Q19 β) (k1 : Q20 β) (k2 : Q21 β) (k3 : Q22 β) (x0 x1 x2 x3 x4 x5 : Int) (x6 x7 : List R) (x8 x9 xa xb xc xd xe xf xg xh xi xj xk xl xm xn xo xp xq xr xs xt xu xv : Int) (xw : List R) (xx xy xz x10 x11 : Int) (x12 : List R) (x13 x14 : Int) (x15 x16 x17 x18 x19 x1a x1b x1c : Bool) (x1d : List R) (x1e x1f x1g x1h : Int) (x1i : List R) : Option β :=
    match (A.cm .lss x1h x1g) with
    | true => (match (A.ix x1h (A.len xw)) with
      | some x1j => (match (B.okC [(Sh.i .i64), Sh.b, (Sh.i .i64), (Sh.i .i64)] xw x1j 0) with
        | true => (f47_0 xe xf xg xh (B.ci xw x1j 2) (B.ci xw x1j 3) (fun x1k x1l x1m x1n =>
          f62_0 x1k x1l x1m x1n (fun x1o =>
            match x1o with
              | true => (k2 0 0 0 0 0 0 2 xk xl xm xn xo xp xq xr xs xt xu xv xw xx xy xz x10 x11 x12 x13 x14 x15 x16 x17 x18 x19 x1a x1b x1c x1d x1e x1f x1i)
              | false => (match (A.ix x1h (A.len x7)) with
                | some x1p => (match (B.okE [(Sh.i .i64), (Sh.i .i64), (Sh.i .i64), (Sh.i .i64), (Sh.sl 1 (Sh.i .i64))] true x7 x1p) with
                  | true => (f69_0 (B.ci x7 x1p 0) (B.ci x7 x1p 1) (B.ci x7 x1p 2) (B.ci x7 x1p 3) (B.cl x7 x1p 4) x1k x1l x1m x1n (fun x1q x1r x1s x1t x1u =>
                    match (A.cm .neq x1u 0) with
                      | true => (k2 0 0 0 0 0 0 x1u xk xl xm xn xo xp xq xr xs xt xu xv xw xx xy xz x10 x11 x12 x13 x14 x15 x16 x17 x18 x19 x1a x1b x1c x1d x1e x1f x1i)
                      | false => (match (A.small (A.len (A.app x1i [(R.a [(R.i .i64 x1q), (R.i .i64 x1r), (R.i .i64 x1s), (R.i .i64 x1t), R.sn])])) 56) with
                        | true => (l36_10_1 k0 k1 k2 k3 x0 x1 x2 x3 x4 x5 x6 x7 x8 x9 xa xb xc xd xe xf xg xh xi xj xk xl xm xn xo xp xq xr xs xt xu xv xw xx xy xz x10 x11 x12 x13 x14 x15 x16 x17 x18 x19 x1a x1b x1c x1d x1e x1f x1g (A.ar .add .i64 x1h 1) (A.app x1i [(R.a [(R.i .i64 x1q), (R.i .i64 x1r), (R.i .i64 x1s), (R.i .i64 x1t), R.sn])]))
                        | false => none)) (fun x1v x1w x1x x1y x1z x20 =>
                    match (A.cm .neq x20 0) with
                      | true => (k2 0 0 0 0 0 0 x20 xk xl xm xn xo xp xq xr xs xt xu xv xw xx xy xz x10 x11 x12 x13 x14 x15 x16 x17 x18 x19 x1a x1b x1c x1d x1e x1f x1i)
                      | false => (match (A.small (A.len (A.app x1i [(R.a [(R.i .i64 x1v), (R.i .i64 x1w), (R.i .i64 x1x), (R.i .i64 x1y), (R.ro 1 x1z)])])) 56) with
                        | true => (l36_10_1 k0 k1 k2 k3 x0 x1 x2 x3 x4 x5 x6 x7 x8 x9 xa xb xc xd xe xf xg xh xi xj xk xl xm xn xo xp xq xr xs xt xu xv xw xx xy xz x10 x11 x12 x13 x14 x15 x16 x17 x18 x19 x1a x1b x1c x1d x1e x1f x1g (A.ar .add .i64 x1h 1) (A.app x1i [(R.a [(R.i .i64 x1v), (R.i .i64 x1w), (R.i .i64 x1x), (R.i .i64 x1y), (R.ro 1 x1z)])]))
                        | false => none)))
                  | false => none)
                | none => none))))
        | false => none)
      | none => none)
    | false => (k3 x8 x9 xa xb xc xd xk xl xm xn xo xp xq xr xs xt xu xv xw xx xy xz x10 x11 x12 x13 x14 x15 x16 x17 x18 x19 x1a x1b x1c x1d x1e x1f x1i)
mutual
def L36_10_0 {β : Type} (A : Pr) (B : Pk) (N : Nat) : Nat → (Q19 β) → (Q20 β) → (Q21 β) → (Q22 β) → Q23 β
  | 0, _, _, _, _, _, _, _, _, _, _, _, _, _, _, _, _, _, _, _, _, _, _, _, _, _, _, _, _, _, _, _, _, _, _, _, _, _, _, _, _, _, _, _, _, _, _, _, _, _, _, _, _, _, _, _, _, _, _ => none
  | n + 1, k0, k1, k2, k3, x0, x1, x2, x3, x4, x5, x6, x7, x8, x9, xa, xb, xc, xd, xe, xf, xg, xh, xi, xj, xk, xl, xm, xn, xo, xp, xq, xr, xs, xt, xu, xv, xw, xx, xy, xz, x10, x11, x12, x13, x14, x15, x16, x17, x18, x19, x1a, x1b, x1c, x1d, x1e, x1f, x1g, x1h =>
    GL36_10_0 A B (F47_0 A B N) (F62_0 A B N) (F69_0 A B N) (L36_10_0 A B N n) (L36_10_1 A B N n) k0 k1 k2 k3 x0 x1 x2 x3 x4 x5 x6 x7 x8 x9 xa xb xc xd xe xf xg xh xi xj xk xl xm xn xo xp xq xr xs xt xu xv xw xx xy xz x10 x11 x12 x13 x14 x15 x16 x17 x18 x19 x1a x1b x1c x1d x1e x1f x1g x1h
def L36_10_1 {β : Type} (A : Pr) (B : Pk) (N : Nat) : Nat → (Q19 β) → (Q20 β) → (Q21 β) → (Q22 β) → Q24 β
  | 0, _, _, _, _, _, _, _, _, _, _, _, _, _, _, _, _, _, _, _, _, _, _, _, _, _, _, _, _, _, _, _, _, _, _, _, _, _, _, _, _, _, _, _, _, _, _, _, _, _, _, _, _, _, _, _, _, _, _, _ => none
  | n + 1, k0, k1, k2, k3, x0, x1, x2, x3, x4, x5, x6, x7, x8, x9, xa, xb, xc, xd, xe, xf, xg, xh, xi, xj, xk, xl, xm, xn, xo, xp, xq, xr, xs, xt, xu, xv, xw, xx, xy, xz, x10, x11, x12, x13, x14, x15, x16, x17, x18, x19, x1a, x1b, x1c, x1d, x1e, x1f, x1g, x1h, x1i =>
    GL36_10_1 A B (F47_0 A B N) (F62_0 A B N) (F69_0 A B N) (L36_10_0 A B N n) (L36_10_1 A B N n) k0 k1 k2 k3 x0 x1 x2 x3 x4 x5 x6 x7 x8 x9 xa xb xc xd xe xf xg xh xi xj xk xl xm xn xo xp xq xr xs xt xu xv xw xx xy xz x10 x11 x12 x13 x14 x15 x16 x17 x18 x19 x1a x1b x1c x1d x1e x1f x1g x1h x1i
end
def P70 : List PT := [.us 4, (.bx [pI, pI, pI, pI, pI, pI, (.r .sn), (.r .sn)]), pI, .us 3, (.bx [pI, pI, pI, pI, pI, pI, (.v 25 [(.t (.lit 0)), (.t (.lit 6))] 4 none), (.r .sn)]), .us 15, (.tp true [(.tp false [pI, pI, pI, pI, pI, pI, (.own true 4)]), (.tp false [pI, pI, pI, pI, pI, (.own true 2), pI, pI, pB, pB, pB, pB, pB, pB, pB, pB, (.own true 1), pI, pI])]), .us 58]
def S70 (x0 x1 x2 x3 x4 x5 x6 x7 x8 x9 xa xb xc xd xe xf xg xh xi : Int) (xj : List R) (xk xl xm xn xo : Int) (xp : List R) (xq xr : Int) (xs xt xu xv xw xx xy xz : Bool) (x10 : List R) (x11 x12 : Int) : List T := (T.u :: T.u :: T.u :: T.u :: (T.bx [(tI x0), (tI x1), (tI x2), (tI x3), (tI x4), (tI x5), (T.r R.sn), (T.r R.sn)]) :: (tI x6) :: T.u :: T.u :: T.u :: (T.bx [(tI x7), (tI x8), (tI x9), (tI xa), (tI xb), (tI xc), (T.v 25 [(Sp.t 0), (Sp.t 6)] 4 none), (T.r R.sn)]) :: T.u :: T.u :: T.u :: T.u :: T.u :: T.u :: T.u :: T.u :: T.u :: T.u :: T.u :: T.u :: T.u :: T.u :: T.u :: (T.tp true [(T.tp false [(tI xd), (tI xe), (tI xf), (tI xg), (tI xh), (tI xi), (T.own true 4 xj)]), (T.tp false [(tI xk), (tI xl), (tI xm), (tI xn), (tI xo), (T.own true 2 xp), (tI xq), (tI xr), (tB xs), (tB xt), (tB xu), (tB xv), (tB xw), (tB xx), (tB xy), (tB xz), (T.own true 1 x10), (tI x11), (tI x12)])]) :: T.u :: T.u :: T.u :: T.u :: T.u :: T.u :: T.u :: T.u :: T.u :: T.u :: T.u :: T.u :: T.u :: T.u :: T.u :: T.u :: T.u :: T.u :: T.u :: T.u :: T.u :: T.u :: T.u :: T.u :: T.u :: T.u :: T.u :: T.u :: T.u :: T.u :: T.u :: T.u :: T.u :: T.u :: T.u :: T.u :: T.u :: T.u :: T.u :: T.u :: T.u :: T.u :: T.u :: T.u :: T.u :: T.u :: T.u :: T.u :: T.u :: T.u :: T.u :: T.u :: T.u :: T.u :: T.u :: T.u :: T.u :: T.u :: [])
def P71 : List PT := [.us 4, (.bx [pI, pI, pI, pI, pI, pI, (.r .sn), (.r .sn)]), .us 4, (.bx [pI, pI, pI, pI, pI, pI, (.v 25 [(.t (.lit 0)), (.t (.lit 6))] 4 none), (.r .sn)]), .us 15, (.tp true [(.tp false [pI, pI, pI, pI, pI, pI, (.own true 4)]), (.tp false [pI, pI, pI, pI, pI, (.own true 2), pI, pI, pB, pB, pB, pB, pB, pB, pB, pB, (.own true 1), pI, pI])]), .us 58]
def S71 (x0 x1 x2 x3 x4 x5 x6 x7 x8 x9 xa xb xc xd xe xf xg xh : Int) (xi : List R) (xj xk xl xm xn : Int) (xo : List R) (xp xq : Int) (xr xs xt xu xv xw xx xy : Bool) (xz : List R) (x10 x11 : Int) : List T := (T.u :: T.u :: T.u :: T.u :: (T.bx [(tI x0), (tI x1), (tI x2), (tI x3), (tI x4), (tI x5), (T.r R.sn), (T.r R.sn)]) :: T.u :: T.u :: T.u :: T.u :: (T.bx [(tI x6), (tI x7), (tI x8), (tI x9), (tI xa), (tI xb), (T.v 25 [(Sp.t 0), (Sp.t 6)] 4 none), (T.r R.sn)]) :: T.u :: T.u :: T.u :: T.u :: T.u :: T.u :: T.u :: T.u :: T.u :: T.u :: T.u :: T.u :: T.u :: T.u :: T.u :: (T.tp true [(T.tp false [(tI xc), (tI xd), (tI xe), (tI xf), (tI xg), (tI xh), (T.own true 4 xi)]), (T.tp false [(tI xj), (tI xk), (tI xl), (tI xm), (tI xn), (T.own true 2 xo), (tI xp), (tI xq), (tB xr), (tB xs), (tB xt), (tB xu), (tB xv), (tB xw), (tB xx), (tB xy), (T.own true 1 xz), (tI x10), (tI x11)])]) :: T.u :: T.u :: T.u :: T.u :: T.u :: T.u :: T.u :: T.u :: T.u :: T.u :: T.u :: T.u :: T.u :: T.u :: T.u :: T.u :: T.u :: T.u :: T.u :: T.u :: T.u :: T.u :: T.u :: T.u :: T.u :: T.u :: T.u :: T.u :: T.u :: T.u :: T.u :: T.u :: T.u :: T.u :: T.u :: T.u :: T.u :: T.u :: T.u :: T.u :: T.u :: T.u :: T.u :: T.u :: T.u :: T.u :: T.u :: T.u :: T.u :: T.u :: T.u :: T.u :: T.u :: T.u :: T.u :: T.u :: T.u :: T.u :: [])
def P72 : List PT := [.us 4, (.bx [pI, pI, pI, pI, pI, pI, (.r .sn), (.r .sn)]), pI, .us 3, (.bx [pI, pI, pI, pI, pI, pI, (.v 25 [(.t (.lit 0)), (.t (.lit 6))] 4 none), (.v 80 [] 5 none)]), .us 15, (.tp true [(.tp false [pI, pI, pI, pI, pI, pI, (.own true 4)]), (.tp false [pI, pI, pI, pI, pI, (.own true 2), pI, pI, pB, pB, pB, pB, pB, pB, pB, pB, (.own true 1), pI, pI])]), .us 54, (.own false 5), .us 3]
def S72 (x0 x1 x2 x3 x4 x5 x6 x7 x8 x9 xa xb xc xd xe xf xg xh xi : Int) (xj : List R) (xk xl xm xn xo : Int) (xp : List R) (xq xr : Int) (xs xt xu xv xw xx xy xz : Bool) (x10 : List R) (x11 x12 : Int) (x13 : List R) : List T := (T.u :: T.u :: T.u :: T.u :: (T.bx [(tI x0), (tI x1), (tI x2), (tI x3), (tI x4), (tI x5), (T.r R.sn), (T.r R.sn)]) :: (tI x6) :: T.u :: T.u :: T.u :: (T.bx [(tI x7), (tI x8), (tI x9), (tI xa), (tI xb), (tI xc), (T.v 25 [(Sp.t 0), (Sp.t 6)] 4 none), (T.v 80 [] 5 none)]) :: T.u :: T.u :: T.u :: T.u :: T.u :: T.u :: T.u :: T.u :: T.u :: T.u :: T.u :: T.u :: T.u :: T.u :: T.u :: (T.tp true [(T.tp false [(tI xd), (tI xe), (tI xf), (tI xg), (tI xh), (tI xi), (T.own true 4 xj)]), (T.tp false [(tI xk), (tI xl), (tI xm), (tI xn), (tI xo), (T.own true 2 xp), (tI xq), (tI xr), (tB xs), (tB xt), (tB xu), (tB xv), (tB xw), (tB xx), (tB xy), (tB xz), (T.own true 1 x10), (tI x11), (tI x12)])]) :: T.u :: T.u :: T.u :: T.u :: T.u :: T.u :: T.u :: T.u :: T.u :: T.u :: T.u :: T.u :: T.u :: T.u :: T.u :: T.u :: T.u :: T.u :: T.u :: T.u :: T.u :: T.u :: T.u :: T.u :: T.u :: T.u :: T.u :: T.u :: T.u :: T.u :: T.u :: T.u :: T.u :: T.u :: T.u :: T.u :: T.u :: T.u :: T.u :: T.u :: T.u :: T.u :: T.u :: T.u :: T.u :: T.u :: T.u :: T.u :: T.u :: T.u :: T.u :: T.u :: T.u :: T.u :: (T.own false 5 x13) :: T.u :: T.u :: T.u :: [])
def P73 : List PT := [.us 4, (.bx [pI, pI, pI, pI, pI, pI, (.r .sn), (.r .sn)]), .us 4, (.bx [pI, pI, pI, pI, pI, pI, (.v 25 [(.t (.lit 0)), (.t (.lit 6))] 4 none), (.v 80 [] 5 none)]), .us 15, (.tp true [(.tp false [pI, pI, pI, pI, pI, pI, (.own true 4)]), (.tp false [pI, pI, pI, pI, pI, (.own true 2), pI, pI, pB, pB, pB, pB, pB, pB, pB, pB, (.own true 1), pI, pI])]), .us 54, (.own false 5), .us 3]
def S73 (x0 x1 x2 x3 x4 x5 x6 x7 x8 x9 xa xb xc xd xe xf xg xh : Int) (xi : List R) (xj xk xl xm xn : Int) (xo : List R) (xp xq : Int) (xr xs xt xu xv xw xx xy : Bool) (xz : List R) (x10 x11 : Int) (x12 : List R) : List T := (T.u :: T.u :: T.u :: T.u :: (T.bx [(tI x0), (tI x1), (tI x2), (tI x3), (tI x4), (tI x5), (T.r R.sn), (T.r R.sn)]) :: T.u :: T.u :: T.u :: T.u :: (T.bx [(tI x6), (tI x7), (tI x8), (tI x9), (tI xa), (tI xb), (T.v 25 [(Sp.t 0), (Sp.t 6)] 4 none), (T.v 80 [] 5 none)]) :: T.u :: T.u :: T.u :: T.u :: T.u :: T.u :: T.u :: T.u :: T.u :: T.u :: T.u :: T.u :: T.u :: T.u :: T.u :: (T.tp true [(T.tp false [(tI xc), (tI xd), (tI xe), (tI xf), (tI xg), (tI xh), (T.own true 4 xi)]), (T.tp false [(tI xj), (tI xk), (tI xl), (tI xm), (tI xn), (T.own true 2 xo), (tI xp), (tI xq), (tB xr), (tB xs), (tB xt), (tB xu), (tB xv), (tB xw), (tB xx), (tB xy), (T.own true 1 xz), (tI x10), (tI x11)])]) :: T.u :: T.u :: T.u :: T.u :: T.u :: T.u :: T.u :: T.u :: T.u :: T.u :: T.u :: T.u :: T.u :: T.u :: T.u :: T.u :: T.u :: T.u :: T.u :: T.u :: T.u :: T.u :: T.u :: T.u :: T.u :: T.u :: T.u :: T.u :: T.u :: T.u :: T.u :: T.u :: T.u :: T.u :: T.u :: T.u :: T.u :: T.u :: T.u :: T.u :: T.u :: T.u :: T.u :: T.u :: T.u :: T.u :: T.u :: T.u :: T.u :: T.u :: T.u :: T.u :: T.u :: T.u :: (T.own false 5 x12) :: T.u :: T.u :: T.u :: [])
def P74 : List PT := [.us 2, (.bx [pI, pI, pI, pI, pI, pI, (.r (.ro 4)), (.r (.ro 5))]), .us 1, (.bx [pI, pI, pI, pI, pI, pI, (.r .sn), (.r .sn)]), .us 2, (.bx [pI, pI, pI, pI, pI, pI, (.v 25 [(.t (.lit 0)), (.t (.lit 6))] 4 none)]), .us 1, (.bx [pI, pI, pI, pI, pI, pI, (.v 25 [(.t (.lit 0)), (.t (.lit 6))] 4 none), (.r .sn)]), .us 15, (.tp true [(.tp false [pI, pI, pI, pI, pI, pI, (.own true 4)]), (.tp false [pI, pI, pI, pI, pI, (.own true 2), pI, pI, pB, pB, pB, pB, pB, pB, pB, pB, (.own true 1), pI, pI])]), .us 19, (.v 25 [(.t (.lit 0)), (.t (.lit 6))] 4 none), pI, pI, .us 36]
def P75 : List PT := [.us 2, (.bx [pI, pI, pI, pI, pI, pI, (.r (.ro 4)), (.r (.ro 5))]), .us 1, (.bx [pI, pI, pI, pI, pI, pI, (.r .sn), (.r .sn)]), .us 2, (.bx [pI, pI, pI, pI, pI, pI, (.v 25 [(.t (.lit 0)), (.t (.lit 6))] 4 none)]), .us 1, (.bx [pI, pI, pI, pI, pI, pI, (.v 25 [(.t (.lit 0)), (.t (.lit 6))] 4 none), (.v 80 [] 5 none)]), .us 15, (.tp true [(.tp false [pI, pI, pI, pI, pI, pI, (.own true 4)]), (.tp false [pI, pI, pI, pI, pI, (.own true 2), pI, pI, pB, pB, pB, pB, pB, pB, pB, pB, (.own true 1), pI, pI])]), .us 19, (.v 25 [(.t (.lit 0)), (.t (.lit 6))] 4 none), pI, pI, .us 32, (.own false 5), .us 3]
noncomputable def M36_10 {β : Type} (l36_10_0 : (Q19 β) → (Q20 β) → (Q21 β) → (Q22 β) → Q23 β) (l36_10_1 : (Q19 β) → (Q20 β) → (Q21 β) → (Q22 β) → Q24 β) (s : List T) : Option ((Ex → List T → Option β) → Option β) :=
  match gTs P74 (clean ((Hn 36).lp 10).1 s) [] with
  | some (.i x0 :: .i x1 :: .i x2 :: .i x3 :: .i x4 :: .i x5 :: .l x6 :: .l x7 :: .i x8 :: .i x9 :: .i xa :: .i xb :: .i xc :: .i xd :: .i xe :: .i xf :: .i xg :: .i xh :: .i xi :: .i xj :: .i xk :: .i xl :: .i xm :: .i xn :: .i xo :: .i xp :: .i xq :: .i xr :: .i xs :: .i xt :: .i xu :: .i xv :: .l xw :: .i xx :: .i xy :: .i xz :: .i x10 :: .i x11 :: .l x12 :: .i x13 :: .i x14 :: .b x15 :: .b x16 :: .b x17 :: .b x18 :: .b x19 :: .b x1a :: .b x1b :: .b x1c :: .l x1d :: .i x1e :: .i x1f :: .i x1g :: .i x1h :: []) => some fun kk => l36_10_0 (fun x1i x1j x1k x1l x1m x1n x1o x1p x1q x1r x1s x1t x1u x1v x1w x1x x1y x1z x20 x21 x22 x23 x24 x25 x26 x27 x28 x29 x2a x2b x2c x2d x2e x2f x2g x2h x2i x2j x2k => kk Ex.rt (S70 x1i x1j x1k x1l x1m x1n x1o x1p x1q x1r x1s x1t x1u x1v x1w x1x x1y x1z x20 x21 x22 x23 x24 x25 x26 x27 x28 x29 x2a x2b x2c x2d x2e x2f x2g x2h x2i x2j x2k)) (fun x2l x2m x2n x2o x2p x2q x2r x2s x2t x2u x2v x2w x2x x2y x2z x30 x31 x32 x33 x34 x35 x36 x37 x38 x39 x3a x3b x3c x3d x3e x3f x3g x3h x3i x3j x3k x3l x3m => kk (Ex.ex 0) (S71 x2l x2m x2n x2o x2p x2q x2r x2s x2t x2u x2v x2w x2x x2y x2z x30 x31 x32 x33 x34 x35 x36 x37 x38 x39 x3a x3b x3c x3d x3e x3f x3g x3h x3i x3j x3k x3l x3m)) (fun x3n x3o x3p x3q x3r x3s x3t x3u x3v x3w x3x x3y x3z x40 x41 x42 x43 x44 x45 x46 x47 x48 x49 x4a x4b x4c x4d x4e x4f x4g x4h x4i x4j x4k x4l x4m x4n x4o x4p x4q => kk Ex.rt (S72 x3n x3o x3p x3q x3r x3s x3t x3u x3v x3w x3x x3y x3z x40 x41 x42 x43 x44 x45 x46 x47 x48 x49 x4a x4b x4c x4d x4e x4f x4g x4h x4i x4j x4k x4l x4m x4n x4o x4p x4q)) (fun x4r x4s x4t x4u x4v x4w x4x x4y x4z x50 x51 x52 x53 x54 x55 x56 x57 x58 x59 x5a x5b x5c x5d x5e x5f x5g x5h x5i x5j x5k x5l x5m x5n x5o x5p x5q x5r x5s x5t => kk (Ex.ex 0) (S73 x4r x4s x4t x4u x4v x4w x4x x4y x4z x50 x51 x52 x53 x54 x55 x56 x57 x58 x59 x5a x5b x5c x5d x5e x5f x5g x5h x5i x5j x5k x5l x5m x5n x5o x5p x5q x5r x5s x5t)) x0 x1 x2 x3 x4 x5 x6 x7 x8 x9 xa xb xc xd xe xf xg xh xi xj xk xl xm xn xo xp xq xr xs xt xu xv xw xx xy xz x10 x11 x12 x13 x14 x15 x16 x17 x18 x19 x1a x1b x1c x1d x1e x1f x1g x1h
  | _ => (match gTs P75 (clean ((Hn 36).lp 10).1 s) [] with
  | some (.i x5u :: .i x5v :: .i x5w :: .i x5x :: .i x5y :: .i x5z :: .l x60 :: .l x61 :: .i x62 :: .i x63 :: .i x64 :: .i x65 :: .i x66 :: .i x67 :: .i x68 :: .i x69 :: .i x6a :: .i x6b :: .i x6c :: .i x6d :: .i x6e :: .i x6f :: .i x6g :: .i x6h :: .i x6i :: .i x6j :: .i x6k :: .i x6l :: .i x6m :: .i x6n :: .i x6o :: .i x6p :: .l x6q :: .i x6r :: .i x6s :: .i x6t :: .i x6u :: .i x6v :: .l x6w :: .i x6x :: .i x6y :: .b x6z :: .b x70 :: .b x71 :: .b x72 :: .b x73 :: .b x74 :: .b x75 :: .b x76 :: .l x77 :: .i x78 :: .i x79 :: .i x7a :: .i x7b :: .l x7c :: []) => some fun kk => l36_10_1 (fun x1i x1j x1k x1l x1m x1n x1o x1p x1q x1r x1s x1t x1u x1v x1w x1x x1y x1z x20 x21 x22 x23 x24 x25 x26 x27 x28 x29 x2a x2b x2c x2d x2e x2f x2g x2h x2i x2j x2k => kk Ex.rt (S70 x1i x1j x1k x1l x1m x1n x1o x1p x1q x1r x1s x1t x1u x1v x1w x1x x1y x1z x20 x21 x22 x23 x24 x25 x26 x27 x28 x29 x2a x2b x2c x2d x2e x2f x2g x2h x2i x2j x2k)) (fun x2l x2m x2n x2o x2p x2q x2r x2s x2t x2u x2v x2w x2x x2y x2z x30 x31 x32 x33 x34 x35 x36 x37 x38 x39 x3a x3b x3c x3d x3e x3f x3g x3h x3i x3j x3k x3l x3m => kk (Ex.ex 0) (S71 x2l x2m x2n x2o x2p x2q x2r x2s x2t x2u x2v x2w x2x x2y x2z x30 x31 x32 x33 x34 x35 x36 x37 x38 x39 x3a x3b x3c x3d x3e x3f x3g x3h x3i x3j x3k x3l x3m)) (fun x3n x3o x3p x3q x3r x3s x3t x3u x3v x3w x3x x3y x3z x40 x41 x42 x43 x44 x45 x46 x47 x48 x49 x4a x4b x4c x4d x4e x4f x4g x4h x4i x4j x4k x4l x4m x4n x4o x4p x4q => kk Ex.rt (S72 x3n x3o x3p x3q x3r x3s x3t x3u x3v x3w x3x x3y x3z x40 x41 x42 x43 x44 x45 x46 x47 x48 x49 x4a x4b x4c x4d x4e x4f x4g x4h x4i x4j x4k x4l x4m x4n x4o x4p x4q)) (fun x4r x4s x4t x4u x4v x4w x4x x4y x4z x50 x51 x52 x53 x54 x55 x56 x57 x58 x59 x5a x5b x5c x5d x5e x5f x5g x5h x5i x5j x5k x5l x5m x5n x5o x5p x5q x5r x5s x5t => kk (Ex.ex 0) (S73 x4r x4s x4t x4u x4v x4w x4x x4y x4z x50 x51 x52 x53 x54 x55 x56 x57 x58 x59 x5a x5b x5c x5d x5e x5f x5g x5h x5i x5j x5k x5l x5m x5n x5o x5p x5q x5r x5s x5t)) x5u x5v x5w x5x x5y x5z x60 x61 x62 x63 x64 x65 x66 x67 x68 x69 x6a x6b x6c x6d x6e x6f x6g x6h x6i x6j x6k x6l x6m x6n x6o x6p x6q x6r x6s x6t x6u x6v x6w x6x x6y x6z x70 x71 x72 x73 x74 x75 x76 x77 x78 x79 x7a x7b x7c
  | _ => none)
theorem e36_10_0 {β : Type} (A : Pr) (B : Pk) (f47_0 : Int → Int → Int → Int → Int → Int → (K4 β) → Option β) (f62_0 : Int → Int → Int → Int → (KB β) → Option β) (f69_0 : Int → Int → Int → Int → List R → Int → Int → Int → Int → (Int → Int → Int → Int → Int → Option β) → (Int → Int → Int → Int → List R → Int → Option β) → Option β) (l36_10_0 : (Q19 β) → (Q20 β) → (Q21 β) → (Q22 β) → Q23 β) (l36_10_1 : (Q19 β) → (Q20 β) → (Q21 β) → (Q22 β) → Q24 β) (x0 x1 x2 x3 x4 x5 : Int) (x6 x7 : List R) (x8 x9 xa xb xc xd xe xf xg xh xi xj xk xl xm xn xo xp xq xr xs xt xu xv : Int) (xw : List R) (xx xy xz x10 x11 : Int) (x12 : List R) (x13 x14 : Int) (x15 x16 x17 x18 x19 x1a x1b x1c : Bool) (x1d : List R) (x1e x1f x1g x1h : Int) (kk : Ex → List T → Option β) :
    uTs P74 (.i x0 :: .i x1 :: .i x2 :: .i x3 :: .i x4 :: .i x5 :: .l x6 :: .l x7 :: .i x8 :: .i x9 :: .i xa :: .i xb :: .i xc :: .i xd :: .i xe :: .i xf :: .i xg :: .i xh :: .i xi :: .i xj :: .i xk :: .i xl :: .i xm :: .i xn :: .i xo :: .i xp :: .i xq :: .i xr :: .i xs :: .i xt :: .i xu :: .i xv :: .l xw :: .i xx :: .i xy :: .i xz :: .i x10 :: .i x11 :: .l x12 :: .i x13 :: .i x14 :: .b x15 :: .b x16 :: .b x17 :: .b x18 :: .b x19 :: .b x1a :: .b x1b :: .b x1c :: .l x1d :: .i x1e :: .i x1f :: .i x1g :: .i x1h :: []) (fun s _ => evK (mkK Try.prog A B [(47, M47_0 f47_0), (62, M62_0 f62_0), (69, M69_0 f69_0)] [] (Hn 36).pt []) X36_10 s (fun e s' => match e with
      | .nm => (match M36_10 l36_10_0 l36_10_1 s' with | some h => h kk | none => none)
      | .ex m => kk (.ex m) (clean ((Hn 36).lp (firstReg X36_10)).2 s')
      | .rt => kk .rt (clean ((Hn 36).lp (firstReg X36_10)).2 s'))) = GL36_10_0 A B f47_0 f62_0 f69_0 l36_10_0 l36_10_1 (fun x1i x1j x1k x1l x1m x1n x1o x1p x1q x1r x1s x1t x1u x1v x1w x1x x1y x1z x20 x21 x22 x23 x24 x25 x26 x27 x28 x29 x2a x2b x2c x2d x2e x2f x2g x2h x2i x2j x2k => kk Ex.rt (S70 x1i x1j x1k x1l x1m x1n x1o x1p x1q x1r x1s x1t x1u x1v x1w x1x x1y x1z x20 x21 x22 x23 x24 x25 x26 x27 x28 x29 x2a x2b x2c x2d x2e x2f x2g x2h x2i x2j x2k)) (fun x2l x2m x2n x2o x2p x2q x2r x2s x2t x2u x2v x2w x2x x2y x2z x30 x31 x32 x33 x34 x35 x36 x37 x38 x39 x3a x3b x3c x3d x3e x3f x3g x3h x3i x3j x3k x3l x3m => kk (Ex.ex 0) (S71 x2l x2m x2n x2o x2p x2q x2r x2s x2t x2u x2v x2w x2x x2y x2z x30 x31 x32 x33 x34 x35 x36 x37 x38 x39 x3a x3b x3c x3d x3e x3f x3g x3h x3i x3j x3k x3l x3m)) (fun x3n x3o x3p x3q x3r x3s x3t x3u x3v x3w x3x x3y x3z x40 x41 x42 x43 x44 x45 x46 x47 x48 x49 x4a x4b x4c x4d x4e x4f x4g x4h x4i x4j x4k x4l x4m x4n x4o x4p x4q => kk Ex.rt (S72 x3n x3o x3p x3q x3r x3s x3t x3u x3v x3w x3x x3y x3z x40 x41 x42 x43 x44 x45 x46 x47 x48 x49 x4a x4b x4c x4d x4e x4f x4g x4h x4i x4j x4k x4l x4m x4n x4o x4p x4q)) (fun x4r x4s x4t x4u x4v x4w x4x x4y x4z x50 x51 x52 x53 x54 x55 x56 x57 x58 x59 x5a x5b x5c x5d x5e x5f x5g x5h x5i x5j x5k x5l x5m x5n x5o x5p x5q x5r x5s x5t => kk (Ex.ex 0) (S73 x4r x4s x4t x4u x4v x4w x4x x4y x4z x50 x51 x52 x53 x54 x55 x56 x57 x58 x59 x5a x5b x5c x5d x5e x5f x5g x5h x5i x5j x5k x5l x5m x5n x5o x5p x5q x5r x5s x5t)) x0 x1 x2 x3 x4 x5 x6 x7 x8 x9 xa xb xc xd xe xf xg xh xi xj xk xl xm xn xo xp xq xr xs xt xu xv xw xx xy xz x10 x11 x12 x13 x14 x15 x16 x17 x18 x19 x1a x1b x1c x1d x1e x1f x1g x1h := by kernel_rfl
theorem e36_10_1 {β : Type} (A : Pr) (B : Pk) (f47_0 : Int → Int → Int → Int → Int → Int → (K4 β) → Option β) (f62_0 : Int → Int → Int → Int → (KB β) → Option β) (f69_0 : Int → Int → Int → Int → List R → Int → Int → Int → Int → (Int → Int → Int → Int → Int → Option β) → (Int → Int → Int → Int → List R → Int → Option β) → Option β) (l36_10_0 : (Q19 β) → (Q20 β) → (Q21 β) → (Q22 β) → Q23 β) (l36_10_1 : (Q19 β) → (Q20 β) → (Q21 β) → (Q22 β) → Q24 β) (x0 x1 x2 x3 x4 x5 : Int) (x6 x7 : List R) (x8 x9 xa xb xc xd xe xf xg xh xi xj xk xl xm xn xo xp xq xr xs xt xu xv : Int) (xw : List R) (xx xy xz x10 x11 : Int) (x12 : List R) (x13 x14 : Int) (x15 x16 x17 x18 x19 x1a x1b x1c : Bool) (x1d : List R) (x1e x1f x1g x1h : Int) (x1i : List R) (kk : Ex → List T → Option β) :
    uTs P75 (.i x0 :: .i x1 :: .i x2 :: .i x3 :: .i x4 :: .i x5 :: .l x6 :: .l x7 :: .i x8 :: .i x9 :: .i xa :: .i xb :: .i xc :: .i xd :: .i xe :: .i xf :: .i xg :: .i xh :: .i xi :: .i xj :: .i xk :: .i xl :: .i xm :: .i xn :: .i xo :: .i xp :: .i xq :: .i xr :: .i xs :: .i xt :: .i xu :: .i xv :: .l xw :: .i xx :: .i xy :: .i xz :: .i x10 :: .i x11 :: .l x12 :: .i x13 :: .i x14 :: .b x15 :: .b x16 :: .b x17 :: .b x18 :: .b x19 :: .b x1a :: .b x1b :: .b x1c :: .l x1d :: .i x1e :: .i x1f :: .i x1g :: .i x1h :: .l x1i :: []) (fun s _ => evK (mkK Try.prog A B [(47, M47_0 f47_0), (62, M62_0 f62_0), (69, M69_0 f69_0)] [] (Hn 36).pt []) X36_10 s (fun e s' => match e with
      | .nm => (match M36_10 l36_10_0 l36_10_1 s' with | some h => h kk | none => none)
      | .ex m => kk (.ex m) (clean ((Hn 36).lp (firstReg X36_10)).2 s')
      | .rt => kk .rt (clean ((Hn 36).lp (firstReg X36_10)).2 s'))) = GL36_10_1 A B f47_0 f62_0 f69_0 l36_10_0 l36_10_1 (fun x1j x1k x1l x1m x1n x1o x1p x1q x1r x1s x1t x1u x1v x1w x1x x1y x1z x20 x21 x22 x23 x24 x25 x26 x27 x28 x29 x2a x2b x2c x2d x2e x2f x2g x2h x2i x2j x2k x2l => kk Ex.rt (S70 x1j x1k x1l x1m x1n x1o x1p x1q x1r x1s x1t x1u x1v x1w x1x x1y x1z x20 x21 x22 x23 x24 x25 x26 x27 x28 x29 x2a x2b x2c x2d x2e x2f x2g x2h x2i x2j x2k x2l)) (fun x2m x2n x2o x2p x2q x2r x2s x2t x2u x2v x2w x2x x2y x2z x30 x31 x32 x33 x34 x35 x36 x37 x38 x39 x3a x3b x3c x3d x3e x3f x3g x3h x3i x3j x3k x3l x3m x3n => kk (Ex.ex 0) (S71 x2m x2n x2o x2p x2q x2r x2s x2t x2u x2v x2w x2x x2y x2z x30 x31 x32 x33 x34 x35 x36 x37 x38 x39 x3a x3b x3c x3d x3e x3f x3g x3h x3i x3j x3k x3l x3m x3n)) (fun x3o x3p x3q x3r x3s x3t x3u x3v x3w x3x x3y x3z x40 x41 x42 x43 x44 x45 x46 x47 x48 x49 x4a x4b x4c x4d x4e x4f x4g x4h x4i x4j x4k x4l x4m x4n x4o x4p x4q x4r => kk Ex.rt (S72 x3o x3p x3q x3r x3s x3t x3u x3v x3w x3x x3y x3z x40 x41 x42 x43 x44 x45 x46 x47 x48 x49 x4a x4b x4c x4d x4e x4f x4g x4h x4i x4j x4k x4l x4m x4n x4o x4p x4q x4r)) (fun x4s x4t x4u x4v x4w x4x x4y x4z x50 x51 x52 x53 x54 x55 x56 x57 x58 x59 x5a x5b x5c x5d x5e x5f x5g x5h x5i x5j x5k x5l x5m x5n x5o x5p x5q x5r x5s x5t x5u => kk (Ex.ex 0) (S73 x4s x4t x4u x4v x4w x4x x4y x4z x50 x51 x52 x53 x54 x55 x56 x57 x58 x59 x5a x5b x5c x5d x5e x5f x5g x5h x5i x5j x5k x5l x5m x5n x5o x5p x5q x5r x5s x5t x5u)) x0 x1 x2 x3 x4 x5 x6 x7 x8 x9 xa xb xc xd xe xf xg xh xi xj xk xl xm xn xo xp xq xr xs xt xu xv xw xx xy xz x10 x11 x12 x13 x14 x15 x16 x17 x18 x19 x1a x1b x1c x1d x1e x1f x1g x1h x1i := by kernel_rfl
theorem ol36_10 {β : Type} (N : Nat) : ∀ n, SndL (β := β) Try.prog Hn (Hn 36) X36_10 (M36_10 (L36_10_0 re rk N n) (L36_10_1 re rk N n))
  | 0 => by
    intro s h kk r ha hr
    unfold M36_10 at ha
    split at ha
    · cases ha; cases hr
    · split at ha
      · cases ha; cases hr
      · cases ha
  | n + 1 => by
    have ih := ol36_10 (β := β) N n
    intro s h kk r ha hr
    unfold M36_10 at ha
    split at ha
    · rename_i hs
      cases ha
      have hk := via_pat hs ((e36_10_0 re rk (F47_0 re rk N) (F62_0 re rk N) (F69_0 re rk N) (L36_10_0 re rk N n) (L36_10_1 re rk N n) _ _ _ _ _ _ _ _ _ _ _ _ _ _ _ _ _ _ _ _ _ _ _ _ _ _ _ _ _ _ _ _ _ _ _ _ _ _ _ _ _ _ _ _ _ _ _ _ _ _ _ _ _ _ kk).trans hr)
      exact round_ok (show SndAll Try.prog Hn [(47, M47_0 (F47_0 re rk N)), (62, M62_0 (F62_0 re rk N)), (69, M69_0 (F69_0 re rk N))] from ⟨o47_0 N, o62_0 N, o69_0 N, trivial⟩) (spots := []) (by kernel_rfl) trivial ih (hd := clean ((Hn 36).lp 10).1 s) (by rw [i36_10]) hk
    · split at ha
      · rename_i hs
        cases ha
        have hk := via_pat hs ((e36_10_1 re rk (F47_0 re rk N) (F62_0 re rk N) (F69_0 re rk N) (L36_10_0 re rk N n) (L36_10_1 re rk N n) _ _ _ _ _ _ _ _ _ _ _ _ _ _ _ _ _ _ _ _ _ _ _ _ _ _ _ _ _ _ _ _ _ _ _ _ _ _ _ _ _ _ _ _ _ _ _ _ _ _ _ _ _ _ _ kk).trans hr)
        exact round_ok (show SndAll Try.prog Hn [(47, M47_0 (F47_0 re rk N)), (62, M62_0 (F62_0 re rk N)), (69, M69_0 (F69_0 re rk N))] from ⟨o47_0 N, o62_0 N, o69_0 N, trivial⟩) (spots := []) (by kernel_rfl) trivial ih (hd := clean ((Hn 36).lp 10).1 s) (by rw [i36_10]) hk
      · cases ha
def G36_0 {β : Type} (A : Pr) (B : Pk) (f24_0 : Int → Int → Int → Int → Int → Int → List R → List R → (KI β) → Option β) (f63_0 : Int → Int → Int → Int → Int → Int → List R → Int → Int → Int → Int → Int → Int → Int → Bool → Bool → Bool → Bool → Bool → Bool → Bool → Bool → Int → Int → (Q15 β) → Option β) (f60_0 : Int → Int → Int → Int → Int → Int → Int → Int → (K4 β) → Option β) (f61_0 : Int → Int → Int → Int → (KB β) → Option β) (f62_0 : Int → Int → Int → Int → (KB β) → Option β) (l36_10_0 : (Q19 β) → (Q20 β) → (Q21 β) → (Q22 β) → Q23 β) (l36_10_1 : (Q19 β) → (Q20 β) → (Q21 β) → (Q22 β) → Q24 β) (x0 x1 x2 x3 x4 x5 : Int) (x6 x7 : List R) (x8 x9 xa xb : Int) (k0 : Int → Int → Int → Int → Int → Int → Int → Option β) (k1 : Int → Int → Int → Int → Int → Int → List R → Int → Option β) (k2 : Q25 β) : Option β :=
    f24_0 x0 x1 x2 x3 x4 x5 x6 x7 (fun xc =>
    match (A.cm .neq xc 0) with
      | true => (k0 0 0 0 0 0 0 xc)
      | false => (f63_0 x0 x1 x2 x3 x4 x5 x6 0 0 0 0 0 0 0 false false false false false false false false 0 0 (fun xd xe xf xg xh xi xj xk xl xm xn xo xp xq xr xs xt xu xv xw xx xy xz x10 x11 x12 =>
        f60_0 xd xe xf xg x8 x9 xa xb (fun x13 x14 x15 x16 =>
          f61_0 x8 x9 xa xb (fun x17 =>
            match (A.bn x17) with
              | true => (k0 0 0 0 0 0 0 2)
              | false => (f62_0 x13 x14 x15 x16 (fun x18 =>
                match x18 with
                  | true => (k0 0 0 0 0 0 0 2)
                  | false => (l36_10_0 (fun x19 x1a x1b x1c x1d x1e x1f x1g x1h x1i x1j x1k x1l x1m x1n x1o x1p x1q x1r x1s x1t x1u x1v x1w x1x x1y x1z x20 x21 x22 x23 x24 x25 x26 x27 x28 x29 x2a x2b =>
                    k0 x19 x1a x1b x1c x1d x1e x1f) (fun x2c x2d x2e x2f x2g x2h x2i x2j x2k x2l x2m x2n x2o x2p x2q x2r x2s x2t x2u x2v x2w x2x x2y x2z x30 x31 x32 x33 x34 x35 x36 x37 x38 x39 x3a x3b x3c x3d =>
                    k1 x2i x2j x2k x2l x2m x2n x2u 0) (fun x3e x3f x3g x3h x3i x3j x3k x3l x3m x3n x3o x3p x3q x3r x3s x3t x3u x3v x3w x3x x3y x3z x40 x41 x42 x43 x44 x45 x46 x47 x48 x49 x4a x4b x4c x4d x4e x4f x4g x4h =>
                    k0 x3e x3f x3g x3h x3i x3j x3k) (fun x4i x4j x4k x4l x4m x4n x4o x4p x4q x4r x4s x4t x4u x4v x4w x4x x4y x4z x50 x51 x52 x53 x54 x55 x56 x57 x58 x59 x5a x5b x5c x5d x5e x5f x5g x5h x5i x5j x5k =>
                    k2 x4o x4p x4q x4r x4s x4t x50 x5k 0) x0 x1 x2 x3 x4 x5 x6 x7 0 0 0 0 0 0 x13 x14 x15 x16 xh xi x13 x14 x15 x16 xh xi xd xe xf xg xh xi xj xk xl xm xn xo xp xq xr xs xt xu xv xw xx xy xz x10 x11 x12 (A.on (A.len xj)) 0))))))))
def F36_0 {β : Type} (A : Pr) (B : Pk) (N : Nat) (x0 x1 x2 x3 x4 x5 : Int) (x6 x7 : List R) (x8 x9 xa xb : Int) (k0 : Int → Int → Int → Int → Int → Int → Int → Option β) (k1 : Int → Int → Int → Int → Int → Int → List R → Int → Option β) (k2 : Q25 β) : Option β :=
  G36_0 A B (F24_0 A B N) (F63_0 A B N) (F60_0 A B N) (F61_0 A B N) (F62_0 A B N) (L36_10_0 A B N N) (L36_10_1 A B N N) x0 x1 x2 x3 x4 x5 x6 x7 x8 x9 xa xb k0 k1 k2
def P76 : List PT := [(.r (.a [(.i .i64), (.i .i64), (.i .i64), (.i .i64), (.i .i64), (.i .i64), (.ro 4), (.ro 5)])), (.r (.a [(.i .i64), (.i .i64), (.i .i64), (.i .i64)]))]
def M36_0 {β : Type} (f36_0 : Int → Int → Int → Int → Int → Int → List R → List R → Int → Int → Int → Int → (Int → Int → Int → Int → Int → Int → Int → Option β) → (Int → Int → Int → Int → Int → Int → List R → Int → Option β) → (Q25 β) → Option β) (a : List T) : Option ((T → List (List T) → Option β) → Option β) :=
  match gTs P76 a [] with
  | some [.i x0, .i x1, .i x2, .i x3, .i x4, .i x5, .l x6, .l x7, .i x8, .i x9, .i xa, .i xb] => some fun kk => f36_0 x0 x1 x2 x3 x4 x5 x6 x7 x8 x9 xa xb (fun xc xd xe xf xg xh xi => kk (T.tp true [(T.tp false [(tI xc), (tI xd), (tI xe), (tI xf), (tI xg), (tI xh), (T.r R.sn), (T.r R.sn)]), (tI xi)]) []) (fun xj xk xl xm xn xo xp xq => kk (T.tp true [(T.tp false [(tI xj), (tI xk), (tI xl), (tI xm), (tI xn), (tI xo), (T.own true 4 xp), (T.r R.sn)]), (tI xq)]) []) (fun xr xs xt xu xv xw xx xy xz => kk (T.tp true [(T.tp false [(tI xr), (tI xs), (tI xt), (tI xu), (tI xv), (tI xw), (T.own true 4 xx), (T.own false 5 xy)]), (tI xz)]) [])
  | _ => none
theorem e36_0 {β : Type} (A : Pr) (B : Pk) (f24_0 : Int → Int → Int → Int → Int → Int → List R → List R → (KI β) → Option β) (f63_0 : Int → Int → Int → Int → Int → Int → List R → Int → Int → Int → Int → Int → Int → Int → Bool → Bool → Bool → Bool → Bool → Bool → Bool → Bool → Int → Int → (Q15 β) → Option β) (f60_0 : Int → Int → Int → Int → Int → Int → Int → Int → (K4 β) → Option β) (f61_0 : Int → Int → Int → Int → (KB β) → Option β) (f62_0 : Int → Int → Int → Int → (KB β) → Option β) (l36_10_0 : (Q19 β) → (Q20 β) → (Q21 β) → (Q22 β) → Q23 β) (l36_10_1 : (Q19 β) → (Q20 β) → (Q21 β) → (Q22 β) → Q24 β) (x0 x1 x2 x3 x4 x5 : Int) (x6 x7 : List R) (x8 x9 xa xb : Int) (kk : T → List (List T) → Option β) :
    uTs P76 [.i x0, .i x1, .i x2, .i x3, .i x4, .i x5, .l x6, .l x7, .i x8, .i x9, .i xa, .i xb] (fun a _ => bodyK (mkK Try.prog A B [(24, M24_0 f24_0), (63, M63_0 f63_0), (60, M60_0 f60_0), (61, M61_0 f61_0), (62, M62_0 f62_0)] [(10, M36_10 l36_10_0 l36_10_1)] (Hn 36).pt []) Try.f36 a kk) = G36_0 A B f24_0 f63_0 f60_0 f61_0 f62_0 l36_10_0 l36_10_1 x0 x1 x2 x3 x4 x5 x6 x7 x8 x9 xa xb (fun xc xd xe xf xg xh xi => kk (T.tp true [(T.tp false [(tI xc), (tI xd), (tI xe), (tI xf), (tI xg), (tI xh), (T.r R.sn), (T.r R.sn)]), (tI xi)]) []) (fun xj xk xl xm xn xo xp xq => kk (T.tp true [(T.tp false [(tI xj), (tI xk), (tI xl), (tI xm), (tI xn), (tI xo), (T.own true 4 xp), (T.r R.sn)]), (tI xq)]) []) (fun xr xs xt xu xv xw xx xy xz => kk (T.tp true [(T.tp false [(tI xr), (tI xs), (tI xt), (tI xu), (tI xv), (tI xw), (T.own true 4 xx), (T.own false 5 xy)]), (tI xz)]) []) := by kernel_rfl
theorem o36_0 {β : Type} (N : Nat) : Snd (β := β) Try.prog Hn 36 (M36_0 (F36_0 re rk N)) := by
  intro a h kk r ha hr
  unfold M36_0 at ha
  split at ha
  · rename_i hs
    cases ha
    have hk := via_pat hs ((e36_0 re rk (F24_0 re rk N) (F63_0 re rk N) (F60_0 re rk N) (F61_0 re rk N) (F62_0 re rk N) (L36_10_0 re rk N N) (L36_10_1 re rk N N) _ _ _ _ _ _ _ _ _ _ _ _ kk).trans hr)
    exact fn_ok (f := 36) (fn := Try.f36) (H := Hn) (by kernel_rfl) (show SndAll Try.prog Hn [(24, M24_0 (F24_0 re rk N)), (63, M63_0 (F63_0 re rk N)), (60, M60_0 (F60_0 re rk N)), (61, M61_0 (F61_0 re rk N)), (62, M62_0 (F62_0 re rk N))] from ⟨o24_0 N, o63_0 N, o60_0 N, o61_0 N, o62_0 N, trivial⟩) (spots := [.lp X36_10]) (by kernel_rfl) ⟨cut_lp (id := 10) i36_10 (ol36_10 N N) (fun s kk => by kernel_rfl), trivial⟩ hk
  · cases ha
def G50_0 {β : Type} (A : Pr) (B : Pk) (f79_0 : Int → Int → Int → Int → (KI β) → Option β) (f65_0 : Int → Int → Int → Int → (KB β) → Option β) (x0 x1 x2 x3 : Int) (x4 : List R) (k0 : KB β) : Option β :=
    f79_0 x0 x1 x2 x3 (fun x5 =>
    f65_0 x0 x1 x2 x3 (fun x6 =>
      match x6 with
        | true => (match (A.cm .leq x5 1048576) with
          | true => (k0 (A.cm .eql (A.on (A.len x4)) x5))
          | false => (k0 false))
        | false => (k0 false)))
def F50_0 {β : Type} (A : Pr) (B : Pk) (N : Nat) (x0 x1 x2 x3 : Int) (x4 : List R) (k0 : KB β) : Option β :=
  G50_0 A B (F79_0 A B N) (F65_0 A B N) x0 x1 x2 x3 x4 k0
def M50_0 {β : Type} (f50_0 : Int → Int → Int → Int → List R → (KB β) → Option β) (a : List T) : Option ((T → List (List T) → Option β) → Option β) :=
  match gTs P58 a [] with
  | some [.i x0, .i x1, .i x2, .i x3, .l x4] => some fun kk => f50_0 x0 x1 x2 x3 x4 (fun x5 => kk (tB x5) [])
  | _ => none
theorem e50_0 {β : Type} (A : Pr) (B : Pk) (f79_0 : Int → Int → Int → Int → (KI β) → Option β) (f65_0 : Int → Int → Int → Int → (KB β) → Option β) (x0 x1 x2 x3 : Int) (x4 : List R) (kk : T → List (List T) → Option β) :
    uTs P58 [.i x0, .i x1, .i x2, .i x3, .l x4] (fun a _ => bodyK (mkK Try.prog A B [(79, M79_0 f79_0), (65, M65_0 f65_0)] [] (Hn 50).pt []) Try.f50 a kk) = G50_0 A B f79_0 f65_0 x0 x1 x2 x3 x4 (fun x5 => kk (tB x5) []) := by kernel_rfl
theorem o50_0 {β : Type} (N : Nat) : Snd (β := β) Try.prog Hn 50 (M50_0 (F50_0 re rk N)) := by
  intro a h kk r ha hr
  unfold M50_0 at ha
  split at ha
  · rename_i hs
    cases ha
    have hk := via_pat hs ((e50_0 re rk (F79_0 re rk N) (F65_0 re rk N) _ _ _ _ _ kk).trans hr)
    exact fn_ok (f := 50) (fn := Try.f50) (H := Hn) (by kernel_rfl) (show SndAll Try.prog Hn [(79, M79_0 (F79_0 re rk N)), (65, M65_0 (F65_0 re rk N))] from ⟨o79_0 N, o65_0 N, trivial⟩) (spots := []) (by kernel_rfl) trivial hk
  · cases ha
noncomputable def X81_3 : Code := atF Try.f81 [true, true, false, true, false, false]
theorem i81_3 : firstReg X81_3 = 3 := by kernel_rfl
def GL81_3_0 {β : Type} (A : Pr) (B : Pk) (l81_3_0 : (Int → Int → Option β) → Int → Int → Int → Option β) (k0 : Int → Int → Option β) (x0 x1 x2 : Int) : Option β :=
    match (A.cm .lss x2 x0) with
    | true => (l81_3_0 k0 x0 (A.ar .mul .i64 2 x1) (A.ar .add .i64 x2 1))
    | false => (k0 x0 x1)
def L81_3_0 {β : Type} (A : Pr) (B : Pk) (N : Nat) : Nat → (Int → Int → Option β) → Int → Int → Int → Option β
  | 0, _, _, _, _ => none
  | n + 1, k0, x0, x1, x2 =>
    GL81_3_0 A B (L81_3_0 A B N n) k0 x0 x1 x2
def P77 : List PT := [pI, .us 2, pI, .us 9]
def S77 (x0 x1 : Int) : List T := [(tI x0), T.u, T.u, (tI x1), T.u, T.u, T.u, T.u, T.u, T.u, T.u, T.u, T.u]
def P78 : List PT := [pI, .us 2, pI, pI, .us 8]
noncomputable def M81_3 {β : Type} (l81_3_0 : (Int → Int → Option β) → Int → Int → Int → Option β) (s : List T) : Option ((Ex → List T → Option β) → Option β) :=
  match gTs P78 (clean ((Hn 81).lp 3).1 s) [] with
  | some [.i x0, .i x1, .i x2] => some fun kk => l81_3_0 (fun x3 x4 => kk (Ex.ex 0) (S77 x3 x4)) x0 x1 x2
  | _ => none
theorem e81_3_0 {β : Type} (A : Pr) (B : Pk) (l81_3_0 : (Int → Int → Option β) → Int → Int → Int → Option β) (x0 x1 x2 : Int) (kk : Ex → List T → Option β) :
    uTs P78 [.i x0, .i x1, .i x2] (fun s _ => evK (mkK Try.prog A B [] [] (Hn 81).pt []) X81_3 s (fun e s' => match e with
      | .nm => (match M81_3 l81_3_0 s' with | some h => h kk | none => none)
      | .ex m => kk (.ex m) (clean ((Hn 81).lp (firstReg X81_3)).2 s')
      | .rt => kk .rt (clean ((Hn 81).lp (firstReg X81_3)).2 s'))) = GL81_3_0 A B l81_3_0 (fun x3 x4 => kk (Ex.ex 0) (S77 x3 x4)) x0 x1 x2 := by kernel_rfl
theorem ol81_3 {β : Type} (N : Nat) : ∀ n, SndL (β := β) Try.prog Hn (Hn 81) X81_3 (M81_3 (L81_3_0 re rk N n))
  | 0 => by
    intro s h kk r ha hr
    unfold M81_3 at ha
    split at ha
    · cases ha; cases hr
    · cases ha
  | n + 1 => by
    have ih := ol81_3 (β := β) N n
    intro s h kk r ha hr
    unfold M81_3 at ha
    split at ha
    · rename_i hs
      cases ha
      have hk := via_pat hs ((e81_3_0 re rk (L81_3_0 re rk N n) _ _ _ kk).trans hr)
      exact round_ok (show SndAll Try.prog Hn [] from trivial) (spots := []) (by kernel_rfl) trivial ih (hd := clean ((Hn 81).lp 3).1 s) (by rw [i81_3]) hk
    · cases ha
def G81_0 {β : Type} (A : Pr) (B : Pk) (l81_3_0 : (Int → Int → Option β) → Int → Int → Int → Option β) (x0 : Int) (k0 : KI β) : Option β :=
    l81_3_0 (fun x1 x2 =>
    k0 x2) x0 1 0
def F81_0 {β : Type} (A : Pr) (B : Pk) (N : Nat) (x0 : Int) (k0 : KI β) : Option β :=
  G81_0 A B (L81_3_0 A B N N) x0 k0
def M81_0 {β : Type} (f81_0 : Int → (KI β) → Option β) (a : List T) : Option ((T → List (List T) → Option β) → Option β) :=
  match gTs P40 a [] with
  | some [.i x0] => some fun kk => f81_0 x0 (fun x1 => kk (tI x1) [])
  | _ => none
theorem e81_0 {β : Type} (A : Pr) (B : Pk) (l81_3_0 : (Int → Int → Option β) → Int → Int → Int → Option β) (x0 : Int) (kk : T → List (List T) → Option β) :
    uTs P40 [.i x0] (fun a _ => bodyK (mkK Try.prog A B [] [(3, M81_3 l81_3_0)] (Hn 81).pt []) Try.f81 a kk) = G81_0 A B l81_3_0 x0 (fun x1 => kk (tI x1) []) := by kernel_rfl
theorem o81_0 {β : Type} (N : Nat) : Snd (β := β) Try.prog Hn 81 (M81_0 (F81_0 re rk N)) := by
  intro a h kk r ha hr
  unfold M81_0 at ha
  split at ha
  · rename_i hs
    cases ha
    have hk := via_pat hs ((e81_0 re rk (L81_3_0 re rk N N) _ kk).trans hr)
    exact fn_ok (f := 81) (fn := Try.f81) (H := Hn) (by kernel_rfl) (show SndAll Try.prog Hn [] from trivial) (spots := [.lp X81_3]) (by kernel_rfl) ⟨cut_lp (id := 3) i81_3 (ol81_3 N N) (fun s kk => by kernel_rfl), trivial⟩ hk
  · cases ha
def G52_0 {β : Type} (A : Pr) (B : Pk) (f81_0 : Int → (KI β) → Option β) (x0 : Int) (x1 : Bool) (x2 x3 : Int) (k0 : Int → Int → Option β) : Option β :=
    match (A.cm .lss x0 1) with
    | true => (k0 0 0)
    | false => (match (A.cm .gtr x0 16) with
      | true => (k0 0 0)
      | false => (f81_0 (A.ar .sub .i64 x0 1) (fun x4 =>
        match x1 with
          | true => (k0 (A.ar .sub .i64 0 x4) (A.ar .sub .i64 x4 1))
          | false => (k0 0 (A.ar .sub .i64 (A.ar .mul .i64 2 x4) 1)))))
def F52_0 {β : Type} (A : Pr) (B : Pk) (N : Nat) (x0 : Int) (x1 : Bool) (x2 x3 : Int) (k0 : Int → Int → Option β) : Option β :=
  G52_0 A B (F81_0 A B N) x0 x1 x2 x3 k0
def M52_0 {β : Type} (f52_0 : Int → Bool → Int → Int → (Int → Int → Option β) → Option β) (a : List T) : Option ((T → List (List T) → Option β) → Option β) :=
  match gTs P59 a [] with
  | some [.i x0, .b x1, .i x2, .i x3] => some fun kk => f52_0 x0 x1 x2 x3 (fun x4 x5 => kk (T.tp true [(tI x4), (tI x5)]) [])
  | _ => none
theorem e52_0 {β : Type} (A : Pr) (B : Pk) (f81_0 : Int → (KI β) → Option β) (x0 : Int) (x1 : Bool) (x2 x3 : Int) (kk : T → List (List T) → Option β) :
    uTs P59 [.i x0, .b x1, .i x2, .i x3] (fun a _ => bodyK (mkK Try.prog A B [(81, M81_0 f81_0)] [] (Hn 52).pt []) Try.f52 a kk) = G52_0 A B f81_0 x0 x1 x2 x3 (fun x4 x5 => kk (T.tp true [(tI x4), (tI x5)]) []) := by kernel_rfl
theorem o52_0 {β : Type} (N : Nat) : Snd (β := β) Try.prog Hn 52 (M52_0 (F52_0 re rk N)) := by
  intro a h kk r ha hr
  unfold M52_0 at ha
  split at ha
  · rename_i hs
    cases ha
    have hk := via_pat hs ((e52_0 re rk (F81_0 re rk N) _ _ _ _ kk).trans hr)
    exact fn_ok (f := 52) (fn := Try.f52) (H := Hn) (by kernel_rfl) (show SndAll Try.prog Hn [(81, M81_0 (F81_0 re rk N))] from ⟨o81_0 N, trivial⟩) (spots := []) (by kernel_rfl) trivial hk
  · cases ha
noncomputable def X25_14 : Code := atF Try.f25 [true, true, true, false, true, false, false, true, true, false, false, true, true, true, true, true, false, false]
theorem i25_14 : firstReg X25_14 = 14 := by kernel_rfl
def GL25_14_0 {β : Type} (A : Pr) (B : Pk) (l25_14_0 : (Q26 β) → (Q27 β) → Q28 β) (k0 : Q26 β) (k1 : Q27 β) (x0 x1 x2 x3 x4 x5 : Int) (x6 x7 : List R) (x8 x9 : Int) (xa : List R) (xb xc : Int) (xd : List R) (xe xf : Int) : Option β :=
    match (A.cm .lss xf xe) with
    | true => (match (A.ix xf (A.len xd)) with
      | some xg => (match (B.okE [(Sh.i .i64)] false xd xg) with
        | true => (match (A.cm .lss (B.ci xd xg 0) x8) with
          | true => (k0 x0 x1 x2 x3 x4 x5 x6 x7 2 xa xb xc)
          | false => (match (A.cm .gtr (B.ci xd xg 0) x9) with
            | true => (k0 x0 x1 x2 x3 x4 x5 x6 x7 2 xa xb xc)
            | false => (l25_14_0 k0 k1 x0 x1 x2 x3 x4 x5 x6 x7 x8 x9 xa xb xc xd xe (A.ar .add .i64 xf 1))))
        | false => none)
      | none => none)
    | false => (k1 x0 x1 x2 x3 x4 x5 x6 x7 xa xb xc)
def L25_14_0 {β : Type} (A : Pr) (B : Pk) (N : Nat) : Nat → (Q26 β) → (Q27 β) → Q28 β
  | 0, _, _, _, _, _, _, _, _, _, _, _, _, _, _, _, _, _, _ => none
  | n + 1, k0, k1, x0, x1, x2, x3, x4, x5, x6, x7, x8, x9, xa, xb, xc, xd, xe, xf =>
    GL25_14_0 A B (L25_14_0 A B N n) k0 k1 x0 x1 x2 x3 x4 x5 x6 x7 x8 x9 xa xb xc xd xe xf
def P79 : List PT := [.us 1, (.bx [pI, pI, pI, pI, pI, pI, (.r (.ro 4)), (.r (.ro 5))]), pI, .us 23, (.r (.ro 5)), pI, pI, .us 48]
def S79 (x0 x1 x2 x3 x4 x5 : Int) (x6 x7 : List R) (x8 : Int) (x9 : List R) (xa xb : Int) : List T := (T.u :: (T.bx [(tI x0), (tI x1), (tI x2), (tI x3), (tI x4), (tI x5), (T.r (R.ro 4 x6)), (T.r (R.ro 5 x7))]) :: (tI x8) :: T.u :: T.u :: T.u :: T.u :: T.u :: T.u :: T.u :: T.u :: T.u :: T.u :: T.u :: T.u :: T.u :: T.u :: T.u :: T.u :: T.u :: T.u :: T.u :: T.u :: T.u :: T.u :: T.u :: (T.r (R.ro 5 x9)) :: (tI xa) :: (tI xb) :: T.u :: T.u :: T.u :: T.u :: T.u :: T.u :: T.u :: T.u :: T.u :: T.u :: T.u :: T.u :: T.u :: T.u :: T.u :: T.u :: T.u :: T.u :: T.u :: T.u :: T.u :: T.u :: T.u :: T.u :: T.u :: T.u :: T.u :: T.u :: T.u :: T.u :: T.u :: T.u :: T.u :: T.u :: T.u :: T.u :: T.u :: T.u :: T.u :: T.u :: T.u :: T.u :: T.u :: T.u :: T.u :: T.u :: T.u :: T.u :: [])
def P80 : List PT := [.us 1, (.bx [pI, pI, pI, pI, pI, pI, (.r (.ro 4)), (.r (.ro 5))]), .us 24, (.r (.ro 5)), pI, pI, .us 48]
def S80 (x0 x1 x2 x3 x4 x5 : Int) (x6 x7 x8 : List R) (x9 xa : Int) : List T := (T.u :: (T.bx [(tI x0), (tI x1), (tI x2), (tI x3), (tI x4), (tI x5), (T.r (R.ro 4 x6)), (T.r (R.ro 5 x7))]) :: T.u :: T.u :: T.u :: T.u :: T.u :: T.u :: T.u :: T.u :: T.u :: T.u :: T.u :: T.u :: T.u :: T.u :: T.u :: T.u :: T.u :: T.u :: T.u :: T.u :: T.u :: T.u :: T.u :: T.u :: (T.r (R.ro 5 x8)) :: (tI x9) :: (tI xa) :: T.u :: T.u :: T.u :: T.u :: T.u :: T.u :: T.u :: T.u :: T.u :: T.u :: T.u :: T.u :: T.u :: T.u :: T.u :: T.u :: T.u :: T.u :: T.u :: T.u :: T.u :: T.u :: T.u :: T.u :: T.u :: T.u :: T.u :: T.u :: T.u :: T.u :: T.u :: T.u :: T.u :: T.u :: T.u :: T.u :: T.u :: T.u :: T.u :: T.u :: T.u :: T.u :: T.u :: T.u :: T.u :: T.u :: T.u :: T.u :: [])
def P81 : List PT := [.us 1, (.bx [pI, pI, pI, pI, pI, pI, (.r (.ro 4)), (.r (.ro 5))]), .us 5, pI, pI, .us 17, (.r (.ro 5)), pI, pI, .us 32, (.r (.ro 1)), pI, pI, .us 13]
noncomputable def M25_14 {β : Type} (l25_14_0 : (Q26 β) → (Q27 β) → Q28 β) (s : List T) : Option ((Ex → List T → Option β) → Option β) :=
  match gTs P81 (clean ((Hn 25).lp 14).1 s) [] with
  | some [.i x0, .i x1, .i x2, .i x3, .i x4, .i x5, .l x6, .l x7, .i x8, .i x9, .l xa, .i xb, .i xc, .l xd, .i xe, .i xf] => some fun kk => l25_14_0 (fun xg xh xi xj xk xl xm xn xo xp xq xr => kk Ex.rt (S79 xg xh xi xj xk xl xm xn xo xp xq xr)) (fun xs xt xu xv xw xx xy xz x10 x11 x12 => kk (Ex.ex 2) (S80 xs xt xu xv xw xx xy xz x10 x11 x12)) x0 x1 x2 x3 x4 x5 x6 x7 x8 x9 xa xb xc xd xe xf
  | _ => none
theorem e25_14_0 {β : Type} (A : Pr) (B : Pk) (l25_14_0 : (Q26 β) → (Q27 β) → Q28 β) (x0 x1 x2 x3 x4 x5 : Int) (x6 x7 : List R) (x8 x9 : Int) (xa : List R) (xb xc : Int) (xd : List R) (xe xf : Int) (kk : Ex → List T → Option β) :
    uTs P81 [.i x0, .i x1, .i x2, .i x3, .i x4, .i x5, .l x6, .l x7, .i x8, .i x9, .l xa, .i xb, .i xc, .l xd, .i xe, .i xf] (fun s _ => evK (mkK Try.prog A B [] [] (Hn 25).pt []) X25_14 s (fun e s' => match e with
      | .nm => (match M25_14 l25_14_0 s' with | some h => h kk | none => none)
      | .ex m => kk (.ex m) (clean ((Hn 25).lp (firstReg X25_14)).2 s')
      | .rt => kk .rt (clean ((Hn 25).lp (firstReg X25_14)).2 s'))) = GL25_14_0 A B l25_14_0 (fun xg xh xi xj xk xl xm xn xo xp xq xr => kk Ex.rt (S79 xg xh xi xj xk xl xm xn xo xp xq xr)) (fun xs xt xu xv xw xx xy xz x10 x11 x12 => kk (Ex.ex 2) (S80 xs xt xu xv xw xx xy xz x10 x11 x12)) x0 x1 x2 x3 x4 x5 x6 x7 x8 x9 xa xb xc xd xe xf := by kernel_rfl
theorem ol25_14 {β : Type} (N : Nat) : ∀ n, SndL (β := β) Try.prog Hn (Hn 25) X25_14 (M25_14 (L25_14_0 re rk N n))
  | 0 => by
    intro s h kk r ha hr
    unfold M25_14 at ha
    split at ha
    · cases ha; cases hr
    · cases ha
  | n + 1 => by
    have ih := ol25_14 (β := β) N n
    intro s h kk r ha hr
    unfold M25_14 at ha
    split at ha
    · rename_i hs
      cases ha
      have hk := via_pat hs ((e25_14_0 re rk (L25_14_0 re rk N n) _ _ _ _ _ _ _ _ _ _ _ _ _ _ _ _ kk).trans hr)
      exact round_ok (show SndAll Try.prog Hn [] from trivial) (spots := []) (by kernel_rfl) trivial ih (hd := clean ((Hn 25).lp 14).1 s) (by rw [i25_14]) hk
    · cases ha
noncomputable def X25_7 : Code := atF Try.f25 [true, true, true, false, true, false, false]
theorem i25_7 : firstReg X25_7 = 7 := by kernel_rfl
def GL25_7_0 {β : Type} (A : Pr) (B : Pk) (f50_0 : Int → Int → Int → Int → List R → (KB β) → Option β) (f51_0 : Int → Int → Int → Int → Int → Int → (K4 β) → Option β) (f52_0 : Int → Bool → Int → Int → (Int → Int → Option β) → Option β) (l25_14_0 : (Q26 β) → (Q27 β) → Q28 β) (l25_7_0 : (KI β) → (Option β) → Q27 β) (k0 : KI β) (k1 : Option β) (x0 x1 x2 x3 x4 x5 : Int) (x6 x7 x8 : List R) (x9 xa : Int) : Option β :=
    match (A.cm .lss xa x9) with
    | true => (match (A.ix xa (A.len x8)) with
      | some xb => (match (B.okE [(Sh.i .i64), (Sh.i .i64), (Sh.i .i64), (Sh.i .i64), (Sh.sl 1 (Sh.i .i64))] true x8 xb) with
        | true => (match (A.ix xa (A.len x6)) with
          | some xc => (match (B.okE [(Sh.i .i64), Sh.b, (Sh.i .i64), (Sh.i .i64)] true x6 xc) with
            | true => (f50_0 (B.ci x8 xb 0) (B.ci x8 xb 1) (B.ci x8 xb 2) (B.ci x8 xb 3) (B.cl x8 xb 4) (fun xd =>
              match (A.bn xd) with
                | true => (k0 1)
                | false => (f51_0 x0 x1 x2 x3 (B.ci x6 xc 2) (B.ci x6 xc 3) (fun xe xf xg xh =>
                  match (A.bn (A.ba (A.cm .eql (B.ci x8 xb 0) xe) (A.ba (A.cm .eql (B.ci x8 xb 1) xf) (A.ba (A.cm .eql (B.ci x8 xb 2) xg) (A.ba (A.cm .eql (B.ci x8 xb 3) xh) true))))) with
                    | true => (k0 1)
                    | false => (f52_0 (B.ci x6 xc 0) (B.cb x6 xc 1) (B.ci x6 xc 2) (B.ci x6 xc 3) (fun xi xj =>
                      l25_14_0 (fun xk xl xm xn xo xp xq xr xs xt xu xv =>
                        k0 xs) (fun xw xx xy xz x10 x11 x12 x13 x14 x15 x16 =>
                        l25_7_0 k0 k1 xw xx xy xz x10 x11 x12 x13 x14 x15 (A.ar .add .i64 x16 1)) x0 x1 x2 x3 x4 x5 x6 x7 xi xj x8 x9 xa (B.cl x8 xb 4) (A.on (A.len (B.cl x8 xb 4))) 0))))))
            | false => none)
          | none => none)
        | false => none)
      | none => none)
    | false => k1
def L25_7_0 {β : Type} (A : Pr) (B : Pk) (N : Nat) : Nat → (KI β) → (Option β) → Q27 β
  | 0, _, _, _, _, _, _, _, _, _, _, _, _, _ => none
  | n + 1, k0, k1, x0, x1, x2, x3, x4, x5, x6, x7, x8, x9, xa =>
    GL25_7_0 A B (F50_0 A B N) (F51_0 A B N) (F52_0 A B N) (L25_14_0 A B N N) (L25_7_0 A B N n) k0 k1 x0 x1 x2 x3 x4 x5 x6 x7 x8 x9 xa
def P82 : List PT := [.us 2, pI, .us 74]
def S82 (x0 : Int) : List T := (T.u :: T.u :: (tI x0) :: T.u :: T.u :: T.u :: T.u :: T.u :: T.u :: T.u :: T.u :: T.u :: T.u :: T.u :: T.u :: T.u :: T.u :: T.u :: T.u :: T.u :: T.u :: T.u :: T.u :: T.u :: T.u :: T.u :: T.u :: T.u :: T.u :: T.u :: T.u :: T.u :: T.u :: T.u :: T.u :: T.u :: T.u :: T.u :: T.u :: T.u :: T.u :: T.u :: T.u :: T.u :: T.u :: T.u :: T.u :: T.u :: T.u :: T.u :: T.u :: T.u :: T.u :: T.u :: T.u :: T.u :: T.u :: T.u :: T.u :: T.u :: T.u :: T.u :: T.u :: T.u :: T.u :: T.u :: T.u :: T.u :: T.u :: T.u :: T.u :: T.u :: T.u :: T.u :: T.u :: T.u :: T.u :: [])
def P83 : List PT := [.us 77]
def S83  : List T := (T.u :: T.u :: T.u :: T.u :: T.u :: T.u :: T.u :: T.u :: T.u :: T.u :: T.u :: T.u :: T.u :: T.u :: T.u :: T.u :: T.u :: T.u :: T.u :: T.u :: T.u :: T.u :: T.u :: T.u :: T.u :: T.u :: T.u :: T.u :: T.u :: T.u :: T.u :: T.u :: T.u :: T.u :: T.u :: T.u :: T.u :: T.u :: T.u :: T.u :: T.u :: T.u :: T.u :: T.u :: T.u :: T.u :: T.u :: T.u :: T.u :: T.u :: T.u :: T.u :: T.u :: T.u :: T.u :: T.u :: T.u :: T.u :: T.u :: T.u :: T.u :: T.u :: T.u :: T.u :: T.u :: T.u :: T.u :: T.u :: T.u :: T.u :: T.u :: T.u :: T.u :: T.u :: T.u :: T.u :: T.u :: [])
noncomputable def M25_7 {β : Type} (l25_7_0 : (KI β) → (Option β) → Q27 β) (s : List T) : Option ((Ex → List T → Option β) → Option β) :=
  match gTs P80 (clean ((Hn 25).lp 7).1 s) [] with
  | some [.i x0, .i x1, .i x2, .i x3, .i x4, .i x5, .l x6, .l x7, .l x8, .i x9, .i xa] => some fun kk => l25_7_0 (fun xb => kk Ex.rt (S82 xb)) (kk (Ex.ex 0) (S83)) x0 x1 x2 x3 x4 x5 x6 x7 x8 x9 xa
  | _ => none
theorem e25_7_0 {β : Type} (A : Pr) (B : Pk) (f50_0 : Int → Int → Int → Int → List R → (KB β) → Option β) (f51_0 : Int → Int → Int → Int → Int → Int → (K4 β) → Option β) (f52_0 : Int → Bool → Int → Int → (Int → Int → Option β) → Option β) (l25_14_0 : (Q26 β) → (Q27 β) → Q28 β) (l25_7_0 : (KI β) → (Option β) → Q27 β) (x0 x1 x2 x3 x4 x5 : Int) (x6 x7 x8 : List R) (x9 xa : Int) (kk : Ex → List T → Option β) :
    uTs P80 [.i x0, .i x1, .i x2, .i x3, .i x4, .i x5, .l x6, .l x7, .l x8, .i x9, .i xa] (fun s _ => evK (mkK Try.prog A B [(50, M50_0 f50_0), (51, M51_0 f51_0), (52, M52_0 f52_0)] [(14, M25_14 l25_14_0)] (Hn 25).pt []) X25_7 s (fun e s' => match e with
      | .nm => (match M25_7 l25_7_0 s' with | some h => h kk | none => none)
      | .ex m => kk (.ex m) (clean ((Hn 25).lp (firstReg X25_7)).2 s')
      | .rt => kk .rt (clean ((Hn 25).lp (firstReg X25_7)).2 s'))) = GL25_7_0 A B f50_0 f51_0 f52_0 l25_14_0 l25_7_0 (fun xb => kk Ex.rt (S82 xb)) (kk (Ex.ex 0) (S83)) x0 x1 x2 x3 x4 x5 x6 x7 x8 x9 xa := by kernel_rfl
theorem ol25_7 {β : Type} (N : Nat) : ∀ n, SndL (β := β) Try.prog Hn (Hn 25) X25_7 (M25_7 (L25_7_0 re rk N n))
  | 0 => by
    intro s h kk r ha hr
    unfold M25_7 at ha
    split at ha
    · cases ha; cases hr
    · cases ha
  | n + 1 => by
    have ih := ol25_7 (β := β) N n
    intro s h kk r ha hr
    unfold M25_7 at ha
    split at ha
    · rename_i hs
      cases ha
      have hk := via_pat hs ((e25_7_0 re rk (F50_0 re rk N) (F51_0 re rk N) (F52_0 re rk N) (L25_14_0 re rk N N) (L25_7_0 re rk N n) _ _ _ _ _ _ _ _ _ _ _ kk).trans hr)
      exact round_ok (show SndAll Try.prog Hn [(50, M50_0 (F50_0 re rk N)), (51, M51_0 (F51_0 re rk N)), (52, M52_0 (F52_0 re rk N))] from ⟨o50_0 N, o51_0 N, o52_0 N, trivial⟩) (spots := [.lp X25_14]) (by kernel_rfl) ⟨cut_lp (id := 14) i25_14 (ol25_14 N N) (fun s kk => by kernel_rfl), trivial⟩ ih (hd := clean ((Hn 25).lp 7).1 s) (by rw [i25_7]) hk
    · cases ha
def G25_0 {β : Type} (A : Pr) (B : Pk) (f49_0 : Int → Int → Int → Int → Int → Int → List R → (KI β) → Option β) (l25_7_0 : (KI β) → (Option β) → Q27 β) (x0 x1 x2 x3 x4 x5 : Int) (x6 x7 : List R) (k0 : KI β) : Option β :=
    f49_0 x0 x1 x2 x3 x4 x5 x6 (fun x8 =>
    match (A.cm .neq x8 0) with
      | true => (k0 x8)
      | false => (match (A.cm .neq (A.on (A.len x7)) (A.on (A.len x6))) with
        | true => (k0 4)
        | false => (l25_7_0 (fun x9 =>
          k0 x9) (k0 0) x0 x1 x2 x3 x4 x5 x6 x7 x7 (A.on (A.len x7)) 0)))
def F25_0 {β : Type} (A : Pr) (B : Pk) (N : Nat) (x0 x1 x2 x3 x4 x5 : Int) (x6 x7 : List R) (k0 : KI β) : Option β :=
  G25_0 A B (F49_0 A B N) (L25_7_0 A B N N) x0 x1 x2 x3 x4 x5 x6 x7 k0
def M25_0 {β : Type} (f25_0 : Int → Int → Int → Int → Int → Int → List R → List R → (KI β) → Option β) (a : List T) : Option ((T → List (List T) → Option β) → Option β) :=
  match gTs P65 a [] with
  | some [.i x0, .i x1, .i x2, .i x3, .i x4, .i x5, .l x6, .l x7] => some fun kk => f25_0 x0 x1 x2 x3 x4 x5 x6 x7 (fun x8 => kk (tI x8) [])
  | _ => none
theorem e25_0 {β : Type} (A : Pr) (B : Pk) (f49_0 : Int → Int → Int → Int → Int → Int → List R → (KI β) → Option β) (l25_7_0 : (KI β) → (Option β) → Q27 β) (x0 x1 x2 x3 x4 x5 : Int) (x6 x7 : List R) (kk : T → List (List T) → Option β) :
    uTs P65 [.i x0, .i x1, .i x2, .i x3, .i x4, .i x5, .l x6, .l x7] (fun a _ => bodyK (mkK Try.prog A B [(49, M49_0 f49_0)] [(7, M25_7 l25_7_0)] (Hn 25).pt []) Try.f25 a kk) = G25_0 A B f49_0 l25_7_0 x0 x1 x2 x3 x4 x5 x6 x7 (fun x8 => kk (tI x8) []) := by kernel_rfl
theorem o25_0 {β : Type} (N : Nat) : Snd (β := β) Try.prog Hn 25 (M25_0 (F25_0 re rk N)) := by
  intro a h kk r ha hr
  unfold M25_0 at ha
  split at ha
  · rename_i hs
    cases ha
    have hk := via_pat hs ((e25_0 re rk (F49_0 re rk N) (L25_7_0 re rk N N) _ _ _ _ _ _ _ _ kk).trans hr)
    exact fn_ok (f := 25) (fn := Try.f25) (H := Hn) (by kernel_rfl) (show SndAll Try.prog Hn [(49, M49_0 (F49_0 re rk N))] from ⟨o49_0 N, trivial⟩) (spots := [.lp X25_7]) (by kernel_rfl) ⟨cut_lp (id := 7) i25_7 (ol25_7 N N) (fun s kk => by kernel_rfl), trivial⟩ hk
  · cases ha
def G102_0 {β : Type} (A : Pr) (B : Pk) (f66_0 : Int → Int → Int → Int → (KB β) → Option β) (x0 x1 x2 x3 x4 x5 x6 x7 : Int) (k0 : KB β) : Option β :=
    f66_0 x4 x5 x6 x7 (fun x8 =>
    match x8 with
      | true => (k0 true)
      | false => (match (A.cm .leq x0 x4) with
        | true => (match (A.cm .leq x6 x2) with
          | true => (match (A.cm .leq x1 x5) with
            | true => (k0 (A.cm .leq x7 x3))
            | false => (k0 false))
          | false => (k0 false))
        | false => (k0 false)))
def F102_0 {β : Type} (A : Pr) (B : Pk) (N : Nat) (x0 x1 x2 x3 x4 x5 x6 x7 : Int) (k0 : KB β) : Option β :=
  G102_0 A B (F66_0 A B N) x0 x1 x2 x3 x4 x5 x6 x7 k0
def M102_0 {β : Type} (f102_0 : Int → Int → Int → Int → Int → Int → Int → Int → (KB β) → Option β) (a : List T) : Option ((T → List (List T) → Option β) → Option β) :=
  match gTs P11 a [] with
  | some [.i x0, .i x1, .i x2, .i x3, .i x4, .i x5, .i x6, .i x7] => some fun kk => f102_0 x0 x1 x2 x3 x4 x5 x6 x7 (fun x8 => kk (tB x8) [])
  | _ => none
theorem e102_0 {β : Type} (A : Pr) (B : Pk) (f66_0 : Int → Int → Int → Int → (KB β) → Option β) (x0 x1 x2 x3 x4 x5 x6 x7 : Int) (kk : T → List (List T) → Option β) :
    uTs P11 [.i x0, .i x1, .i x2, .i x3, .i x4, .i x5, .i x6, .i x7] (fun a _ => bodyK (mkK Try.prog A B [(66, M66_0 f66_0)] [] (Hn 102).pt []) Try.f102 a kk) = G102_0 A B f66_0 x0 x1 x2 x3 x4 x5 x6 x7 (fun x8 => kk (tB x8) []) := by kernel_rfl
theorem o102_0 {β : Type} (N : Nat) : Snd (β := β) Try.prog Hn 102 (M102_0 (F102_0 re rk N)) := by
  intro a h kk r ha hr
  unfold M102_0 at ha
  split at ha
  · rename_i hs
    cases ha
    have hk := via_pat hs ((e102_0 re rk (F66_0 re rk N) _ _ _ _ _ _ _ _ kk).trans hr)
    exact fn_ok (f := 102) (fn := Try.f102) (H := Hn) (by kernel_rfl) (show SndAll Try.prog Hn [(66, M66_0 (F66_0 re rk N))] from ⟨o66_0 N, trivial⟩) (spots := []) (by kernel_rfl) trivial hk
  · cases ha
def G103_0 {β : Type} (A : Pr) (B : Pk) (x0 x1 x2 x3 : Int) (x4 : List R) (x5 x6 : Int) (k0 : KI β) : Option β :=
    match (A.ix (A.ar .sub .i64 (A.ar .add .i64 (A.ar .mul .i64 (A.ar .sub .i64 x6 x1) (A.ar .sub .i64 x2 x0)) x5) x0) (A.len x4)) with
    | some x7 => (match (B.okE [(Sh.i .i64)] false x4 x7) with
      | true => (k0 (B.ci x4 x7 0))
      | false => none)
    | none => none
def F103_0 {β : Type} (A : Pr) (B : Pk) (N : Nat) (x0 x1 x2 x3 : Int) (x4 : List R) (x5 x6 : Int) (k0 : KI β) : Option β :=
  G103_0 A B  x0 x1 x2 x3 x4 x5 x6 k0
def P84 : List PT := [(.r (.a [(.i .i64), (.i .i64), (.i .i64), (.i .i64), (.ro 1)])), pI, pI]
def M103_0 {β : Type} (f103_0 : Int → Int → Int → Int → List R → Int → Int → (KI β) → Option β) (a : List T) : Option ((T → List (List T) → Option β) → Option β) :=
  match gTs P84 a [] with
  | some [.i x0, .i x1, .i x2, .i x3, .l x4, .i x5, .i x6] => some fun kk => f103_0 x0 x1 x2 x3 x4 x5 x6 (fun x7 => kk (tI x7) [])
  | _ => none
theorem e103_0 {β : Type} (A : Pr) (B : Pk) (x0 x1 x2 x3 : Int) (x4 : List R) (x5 x6 : Int) (kk : T → List (List T) → Option β) :
    uTs P84 [.i x0, .i x1, .i x2, .i x3, .l x4, .i x5, .i x6] (fun a _ => bodyK (mkK Try.prog A B [] [] (Hn 103).pt []) Try.f103 a kk) = G103_0 A B  x0 x1 x2 x3 x4 x5 x6 (fun x7 => kk (tI x7) []) := by kernel_rfl
theorem o103_0 {β : Type} (N : Nat) : Snd (β := β) Try.prog Hn 103 (M103_0 (F103_0 re rk N)) := by
  intro a h kk r ha hr
  unfold M103_0 at ha
  split at ha
  · rename_i hs
    cases ha
    have hk := via_pat hs ((e103_0 re rk  _ _ _ _ _ _ _ kk).trans hr)
    exact fn_ok (f := 103) (fn := Try.f103) (H := Hn) (by kernel_rfl) (show SndAll Try.prog Hn [] from trivial) (spots := []) (by kernel_rfl) trivial hk
  · cases ha
noncomputable def X70_10 : Code := atF Try.f70 [true, true, true, true, false, true, false, false, true, false, false, true, false, false]
theorem i70_10 : firstReg X70_10 = 10 := by kernel_rfl
def GL70_10_0 {β : Type} (A : Pr) (B : Pk) (f103_0 : Int → Int → Int → Int → List R → Int → Int → (KI β) → Option β) (l70_10_0 : (Q29 β) → (Q30 β) → Q31 β) (l70_10_1 : (Q29 β) → (Q30 β) → Q32 β) (k0 : Q29 β) (k1 : Q30 β) (x0 x1 x2 x3 : Int) (x4 : List R) (x5 x6 x7 x8 x9 xa xb xc xd xe xf xg xh xi : Int) : Option β :=
    match (A.cm .lss xi x7) with
    | true => (f103_0 x0 x1 x2 x3 x4 xi xh (fun xj =>
      match (A.small (A.len [(R.i .i64 xj)]) 8) with
        | true => (l70_10_1 k0 k1 x0 x1 x2 x3 x4 x5 x6 x7 x8 x9 xa xb xc xd xe xf xg xh (A.ar .add .i64 xi 1) [(R.i .i64 xj)])
        | false => none))
    | false => (k0 x0 x1 x2 x3 x4 x5 x6 x7 x8 x9 xa xb xc xd xe xf xg xh)
def GL70_10_1 {β : Type} (A : Pr) (B : Pk) (f103_0 : Int → Int → Int → Int → List R → Int → Int → (KI β) → Option β) (l70_10_0 : (Q29 β) → (Q30 β) → Q31 β) (l70_10_1 : (Q29 β) → (Q30 β) → Q32 β) (k0 : Q29 β) (k1 : Q30 β) (x0 x1 x2 x3 : Int) (x4 : List R) (x5 x6 x7 x8 x9 xa xb xc xd xe xf xg xh xi : Int) (xj : List R) : Option β :=
    match (A.cm .lss xi x7) with
    | true => (f103_0 x0 x1 x2 x3 x4 xi xh (fun xk =>
      match (A.small (A.len (A.app xj [(R.i .i64 xk)])) 8) with
        | true => (l70_10_1 k0 k1 x0 x1 x2 x3 x4 x5 x6 x7 x8 x9 xa xb xc xd xe xf xg xh (A.ar .add .i64 xi 1) (A.app xj [(R.i .i64 xk)]))
        | false => none))
    | false => (k1 x0 x1 x2 x3 x4 x5 x6 x7 x8 x9 xa xb xc xd xe xf xg xh xj)
mutual
def L70_10_0 {β : Type} (A : Pr) (B : Pk) (N : Nat) : Nat → (Q29 β) → (Q30 β) → Q31 β
  | 0, _, _, _, _, _, _, _, _, _, _, _, _, _, _, _, _, _, _, _, _, _ => none
  | n + 1, k0, k1, x0, x1, x2, x3, x4, x5, x6, x7, x8, x9, xa, xb, xc, xd, xe, xf, xg, xh, xi =>
    GL70_10_0 A B (F103_0 A B N) (L70_10_0 A B N n) (L70_10_1 A B N n) k0 k1 x0 x1 x2 x3 x4 x5 x6 x7 x8 x9 xa xb xc xd xe xf xg xh xi
def L70_10_1 {β : Type} (A : Pr) (B : Pk) (N : Nat) : Nat → (Q29 β) → (Q30 β) → Q32 β
  | 0, _, _, _, _, _, _, _, _, _, _, _, _, _, _, _, _, _, _, _, _, _, _ => none
  | n + 1, k0, k1, x0, x1, x2, x3, x4, x5, x6, x7, x8, x9, xa, xb, xc, xd, xe, xf, xg, xh, xi, xj =>
    GL70_10_1 A B (F103_0 A B N) (L70_10_0 A B N n) (L70_10_1 A B N n) k0 k1 x0 x1 x2 x3 x4 x5 x6 x7 x8 x9 xa xb xc xd xe xf xg xh xi xj
end
def P85 : List PT := [.us 2, (.bx [pI, pI, pI, pI, (.r (.ro 1))]), (.bx [pI, pI, pI, pI]), (.bx [pI, pI, pI, pI, (.r .sn)]), .us 1, (.bx [pI, pI, pI, pI, (.r .sn)]), pI, .us 44]
def S85 (x0 x1 x2 x3 : Int) (x4 : List R) (x5 x6 x7 x8 x9 xa xb xc xd xe xf xg xh : Int) : List T := (T.u :: T.u :: (T.bx [(tI x0), (tI x1), (tI x2), (tI x3), (T.r (R.ro 1 x4))]) :: (T.bx [(tI x5), (tI x6), (tI x7), (tI x8)]) :: (T.bx [(tI x9), (tI xa), (tI xb), (tI xc), (T.r R.sn)]) :: T.u :: (T.bx [(tI xd), (tI xe), (tI xf), (tI xg), (T.r R.sn)]) :: (tI xh) :: T.u :: T.u :: T.u :: T.u :: T.u :: T.u :: T.u :: T.u :: T.u :: T.u :: T.u :: T.u :: T.u :: T.u :: T.u :: T.u :: T.u :: T.u :: T.u :: T.u :: T.u :: T.u :: T.u :: T.u :: T.u :: T.u :: T.u :: T.u :: T.u :: T.u :: T.u :: T.u :: T.u :: T.u :: T.u :: T.u :: T.u :: T.u :: T.u :: T.u :: T.u :: T.u :: T.u :: T.u :: [])
def P86 : List PT := [.us 2, (.bx [pI, pI, pI, pI, (.r (.ro 1))]), (.bx [pI, pI, pI, pI]), (.bx [pI, pI, pI, pI, (.r .sn)]), .us 1, (.bx [pI, pI, pI, pI, (.v 49 [] 1 none)]), pI, .us 41, (.own true 1), .us 2]
def S86 (x0 x1 x2 x3 : Int) (x4 : List R) (x5 x6 x7 x8 x9 xa xb xc xd xe xf xg xh : Int) (xi : List R) : List T := (T.u :: T.u :: (T.bx [(tI x0), (tI x1), (tI x2), (tI x3), (T.r (R.ro 1 x4))]) :: (T.bx [(tI x5), (tI x6), (tI x7), (tI x8)]) :: (T.bx [(tI x9), (tI xa), (tI xb), (tI xc), (T.r R.sn)]) :: T.u :: (T.bx [(tI xd), (tI xe), (tI xf), (tI xg), (T.v 49 [] 1 none)]) :: (tI xh) :: T.u :: T.u :: T.u :: T.u :: T.u :: T.u :: T.u :: T.u :: T.u :: T.u :: T.u :: T.u :: T.u :: T.u :: T.u :: T.u :: T.u :: T.u :: T.u :: T.u :: T.u :: T.u :: T.u :: T.u :: T.u :: T.u :: T.u :: T.u :: T.u :: T.u :: T.u :: T.u :: T.u :: T.u :: T.u :: T.u :: T.u :: T.u :: T.u :: T.u :: T.u :: (T.own true 1 xi) :: T.u :: T.u :: [])
def P87 : List PT := [.us 2, (.bx [pI, pI, pI, pI, (.r (.ro 1))]), (.bx [pI, pI, pI, pI]), (.bx [pI, pI, pI, pI, (.r .sn)]), .us 1, (.bx [pI, pI, pI, pI, (.r .sn)]), pI, pI, .us 43]
def P88 : List PT := [.us 2, (.bx [pI, pI, pI, pI, (.r (.ro 1))]), (.bx [pI, pI, pI, pI]), (.bx [pI, pI, pI, pI, (.r .sn)]), .us 1, (.bx [pI, pI, pI, pI, (.v 49 [] 1 none)]), pI, pI, .us 40, (.own true 1), .us 2]
noncomputable def M70_10 {β : Type} (l70_10_0 : (Q29 β) → (Q30 β) → Q31 β) (l70_10_1 : (Q29 β) → (Q30 β) → Q32 β) (s : List T) : Option ((Ex → List T → Option β) → Option β) :=
  match gTs P87 (clean ((Hn 70).lp 10).1 s) [] with
  | some [.i x0, .i x1, .i x2, .i x3, .l x4, .i x5, .i x6, .i x7, .i x8, .i x9, .i xa, .i xb, .i xc, .i xd, .i xe, .i xf, .i xg, .i xh, .i xi] => some fun kk => l70_10_0 (fun xj xk xl xm xn xo xp xq xr xs xt xu xv xw xx xy xz x10 => kk (Ex.ex 2) (S85 xj xk xl xm xn xo xp xq xr xs xt xu xv xw xx xy xz x10)) (fun x11 x12 x13 x14 x15 x16 x17 x18 x19 x1a x1b x1c x1d x1e x1f x1g x1h x1i x1j => kk (Ex.ex 2) (S86 x11 x12 x13 x14 x15 x16 x17 x18 x19 x1a x1b x1c x1d x1e x1f x1g x1h x1i x1j)) x0 x1 x2 x3 x4 x5 x6 x7 x8 x9 xa xb xc xd xe xf xg xh xi
  | _ => (match gTs P88 (clean ((Hn 70).lp 10).1 s) [] with
  | some [.i x1k, .i x1l, .i x1m, .i x1n, .l x1o, .i x1p, .i x1q, .i x1r, .i x1s, .i x1t, .i x1u, .i x1v, .i x1w, .i x1x, .i x1y, .i x1z, .i x20, .i x21, .i x22, .l x23] => some fun kk => l70_10_1 (fun xj xk xl xm xn xo xp xq xr xs xt xu xv xw xx xy xz x10 => kk (Ex.ex 2) (S85 xj xk xl xm xn xo xp xq xr xs xt xu xv xw xx xy xz x10)) (fun x11 x12 x13 x14 x15 x16 x17 x18 x19 x1a x1b x1c x1d x1e x1f x1g x1h x1i x1j => kk (Ex.ex 2) (S86 x11 x12 x13 x14 x15 x16 x17 x18 x19 x1a x1b x1c x1d x1e x1f x1g x1h x1i x1j)) x1k x1l x1m x1n x1o x1p x1q x1r x1s x1t x1u x1v x1w x1x x1y x1z x20 x21 x22 x23
  | _ => none)
theorem e70_10_0 {β : Type} (A : Pr) (B : Pk) (f103_0 : Int → Int → Int → Int → List R → Int → Int → (KI β) → Option β) (l70_10_0 : (Q29 β) → (Q30 β) → Q31 β) (l70_10_1 : (Q29 β) → (Q30 β) → Q32 β) (x0 x1 x2 x3 : Int) (x4 : List R) (x5 x6 x7 x8 x9 xa xb xc xd xe xf xg xh xi : Int) (kk : Ex → List T → Option β) :
    uTs P87 [.i x0, .i x1, .i x2, .i x3, .l x4, .i x5, .i x6, .i x7, .i x8, .i x9, .i xa, .i xb, .i xc, .i xd, .i xe, .i xf, .i xg, .i xh, .i xi] (fun s _ => evK (mkK Try.prog A B [(103, M103_0 f103_0)] [] (Hn 70).pt []) X70_10 s (fun e s' => match e with
      | .nm => (match M70_10 l70_10_0 l70_10_1 s' with | some h => h kk | none => none)
      | .ex m => kk (.ex m) (clean ((Hn 70).lp (firstReg X70_10)).2 s')
      | .rt => kk .rt (clean ((Hn 70).lp (firstReg X70_10)).2 s'))) = GL70_10_0 A B f103_0 l70_10_0 l70_10_1 (fun xj xk xl xm xn xo xp xq xr xs xt xu xv xw xx xy xz x10 => kk (Ex.ex 2) (S85 xj xk xl xm xn xo xp xq xr xs xt xu xv xw xx xy xz x10)) (fun x11 x12 x13 x14 x15 x16 x17 x18 x19 x1a x1b x1c x1d x1e x1f x1g x1h x1i x1j => kk (Ex.ex 2) (S86 x11 x12 x13 x14 x15 x16 x17 x18 x19 x1a x1b x1c x1d x1e x1f x1g x1h x1i x1j)) x0 x1 x2 x3 x4 x5 x6 x7 x8 x9 xa xb xc xd xe xf xg xh xi := by kernel_rfl
theorem e70_10_1 {β : Type} (A : Pr) (B : Pk) (f103_0 : Int → Int → Int → Int → List R → Int → Int → (KI β) → Option β) (l70_10_0 : (Q29 β) → (Q30 β) → Q31 β) (l70_10_1 : (Q29 β) → (Q30 β) → Q32 β) (x0 x1 x2 x3 : Int) (x4 : List R) (x5 x6 x7 x8 x9 xa xb xc xd xe xf xg xh xi : Int) (xj : List R) (kk : Ex → List T → Option β) :
    uTs P88 [.i x0, .i x1, .i x2, .i x3, .l x4, .i x5, .i x6, .i x7, .i x8, .i x9, .i xa, .i xb, .i xc, .i xd, .i xe, .i xf, .i xg, .i xh, .i xi, .l xj] (fun s _ => evK (mkK Try.prog A B [(103, M103_0 f103_0)] [] (Hn 70).pt []) X70_10 s (fun e s' => match e with
      | .nm => (match M70_10 l70_10_0 l70_10_1 s' with | some h => h kk | none => none)
      | .ex m => kk (.ex m) (clean ((Hn 70).lp (firstReg X70_10)).2 s')
      | .rt => kk .rt (clean ((Hn 70).lp (firstReg X70_10)).2 s'))) = GL70_10_1 A B f103_0 l70_10_0 l70_10_1 (fun xk xl xm xn xo xp xq xr xs xt xu xv xw xx xy xz x10 x11 => kk (Ex.ex 2) (S85 xk xl xm xn xo xp xq xr xs xt xu xv xw xx xy xz x10 x11)) (fun x12 x13 x14 x15 x16 x17 x18 x19 x1a x1b x1c x1d x1e x1f x1g x1h x1i x1j x1k => kk (Ex.ex 2) (S86 x12 x13 x14 x15 x16 x17 x18 x19 x1a x1b x1c x1d x1e x1f x1g x1h x1i x1j x1k)) x0 x1 x2 x3 x4 x5 x6 x7 x8 x9 xa xb xc xd xe xf xg xh xi xj := by kernel_rfl
theorem ol70_10 {β : Type} (N : Nat) : ∀ n, SndL (β := β) Try.prog Hn (Hn 70) X70_10 (M70_10 (L70_10_0 re rk N n) (L70_10_1 re rk N n))
  | 0 => by
    intro s h kk r ha hr
    unfold M70_10 at ha
    split at ha
    · cases ha; cases hr
    · split at ha
      · cases ha; cases hr
      · cases ha
  | n + 1 => by
    have ih := ol70_10 (β := β) N n
    intro s h kk r ha hr
    unfold M70_10 at ha
    split at ha
    · rename_i hs
      cases ha
      have hk := via_pat hs ((e70_10_0 re rk (F103_0 re rk N) (L70_10_0 re rk N n) (L70_10_1 re rk N n) _ _ _ _ _ _ _ _ _ _ _ _ _ _ _ _ _ _ _ kk).trans hr)
      exact round_ok (show SndAll Try.prog Hn [(103, M103_0 (F103_0 re rk N))] from ⟨o103_0 N, trivial⟩) (spots := []) (by kernel_rfl) trivial ih (hd := clean ((Hn 70).lp 10).1 s) (by rw [i70_10]) hk
    · split at ha
      · rename_i hs
        cases ha
        have hk := via_pat hs ((e70_10_1 re rk (F103_0 re rk N) (L70_10_0 re rk N n) (L70_10_1 re rk N n) _ _ _ _ _ _ _ _ _ _ _ _ _ _ _ _ _ _ _ _ kk).trans hr)
        exact round_ok (show SndAll Try.prog Hn [(103, M103_0 (F103_0 re rk N))] from ⟨o103_0 N, trivial⟩) (spots := []) (by kernel_rfl) trivial ih (hd := clean ((Hn 70).lp 10).1 s) (by rw [i70_10]) hk
      · cases ha
noncomputable def X70_7 : Code := atF Try.f70 [true, true, true, true, false, true, false, false]
theorem i70_7 : firstReg X70_7 = 7 := by kernel_rfl
def GL70_7_0 {β : Type} (A : Pr) (B : Pk) (l70_10_0 : (Q29 β) → (Q30 β) → Q31 β) (l70_10_1 : (Q29 β) → (Q30 β) → Q32 β) (l70_7_0 : (Int → Int → Int → Int → Int → Int → Int → Int → Option β) → (Q33 β) → Q29 β) (l70_7_1 : (Int → Int → Int → Int → Int → Int → Int → Int → Option β) → (Q33 β) → Q30 β) (k0 : Int → Int → Int → Int → Int → Int → Int → Int → Option β) (k1 : Q33 β) (x0 x1 x2 x3 : Int) (x4 : List R) (x5 x6 x7 x8 x9 xa xb xc xd xe xf xg xh : Int) : Option β :=
    match (A.cm .lss xh x8) with
    | true => (l70_10_0 (fun xi xj xk xl xm xn xo xp xq xr xs xt xu xv xw xx xy xz =>
      l70_7_0 k0 k1 xi xj xk xl xm xn xo xp xq xr xs xt xu xv xw xx xy (A.ar .add .i64 xz 1)) (fun x10 x11 x12 x13 x14 x15 x16 x17 x18 x19 x1a x1b x1c x1d x1e x1f x1g x1h x1i =>
      l70_7_1 k0 k1 x10 x11 x12 x13 x14 x15 x16 x17 x18 x19 x1a x1b x1c x1d x1e x1f x1g (A.ar .add .i64 x1h 1) x1i) x0 x1 x2 x3 x4 x5 x6 x7 x8 x9 xa xb xc xd xe xf xg xh x5)
    | false => (k0 x9 xa xb xc xd xe xf xg)
def GL70_7_1 {β : Type} (A : Pr) (B : Pk) (l70_10_0 : (Q29 β) → (Q30 β) → Q31 β) (l70_10_1 : (Q29 β) → (Q30 β) → Q32 β) (l70_7_0 : (Int → Int → Int → Int → Int → Int → Int → Int → Option β) → (Q33 β) → Q29 β) (l70_7_1 : (Int → Int → Int → Int → Int → Int → Int → Int → Option β) → (Q33 β) → Q30 β) (k0 : Int → Int → Int → Int → Int → Int → Int → Int → Option β) (k1 : Q33 β) (x0 x1 x2 x3 : Int) (x4 : List R) (x5 x6 x7 x8 x9 xa xb xc xd xe xf xg xh : Int) (xi : List R) : Option β :=
    match (A.cm .lss xh x8) with
    | true => (l70_10_1 (fun xj xk xl xm xn xo xp xq xr xs xt xu xv xw xx xy xz x10 =>
      l70_7_0 k0 k1 xj xk xl xm xn xo xp xq xr xs xt xu xv xw xx xy xz (A.ar .add .i64 x10 1)) (fun x11 x12 x13 x14 x15 x16 x17 x18 x19 x1a x1b x1c x1d x1e x1f x1g x1h x1i x1j =>
      l70_7_1 k0 k1 x11 x12 x13 x14 x15 x16 x17 x18 x19 x1a x1b x1c x1d x1e x1f x1g x1h (A.ar .add .i64 x1i 1) x1j) x0 x1 x2 x3 x4 x5 x6 x7 x8 x9 xa xb xc xd xe xf xg xh x5 xi)
    | false => (k1 x9 xa xb xc xd xe xf xg xi)
mutual
def L70_7_0 {β : Type} (A : Pr) (B : Pk) (N : Nat) : Nat → (Int → Int → Int → Int → Int → Int → Int → Int → Option β) → (Q33 β) → Q29 β
  | 0, _, _, _, _, _, _, _, _, _, _, _, _, _, _, _, _, _, _, _, _ => none
  | n + 1, k0, k1, x0, x1, x2, x3, x4, x5, x6, x7, x8, x9, xa, xb, xc, xd, xe, xf, xg, xh =>
    GL70_7_0 A B (L70_10_0 A B N N) (L70_10_1 A B N N) (L70_7_0 A B N n) (L70_7_1 A B N n) k0 k1 x0 x1 x2 x3 x4 x5 x6 x7 x8 x9 xa xb xc xd xe xf xg xh
def L70_7_1 {β : Type} (A : Pr) (B : Pk) (N : Nat) : Nat → (Int → Int → Int → Int → Int → Int → Int → Int → Option β) → (Q33 β) → Q30 β
  | 0, _, _, _, _, _, _, _, _, _, _, _, _, _, _, _, _, _, _, _, _, _ => none
  | n + 1, k0, k1, x0, x1, x2, x3, x4, x5, x6, x7, x8, x9, xa, xb, xc, xd, xe, xf, xg, xh, xi =>
    GL70_7_1 A B (L70_10_0 A B N N) (L70_10_1 A B N N) (L70_7_0 A B N n) (L70_7_1 A B N n) k0 k1 x0 x1 x2 x3 x4 x5 x6 x7 x8 x9 xa xb xc xd xe xf xg xh xi
end
def P89 : List PT := [.us 4, (.bx [pI, pI, pI, pI, (.r .sn)]), .us 1, (.bx [pI, pI, pI, pI, (.r .sn)]), .us 45]
def S89 (x0 x1 x2 x3 x4 x5 x6 x7 : Int) : List T := (T.u :: T.u :: T.u :: T.u :: (T.bx [(tI x0), (tI x1), (tI x2), (tI x3), (T.r R.sn)]) :: T.u :: (T.bx [(tI x4), (tI x5), (tI x6), (tI x7), (T.r R.sn)]) :: T.u :: T.u :: T.u :: T.u :: T.u :: T.u :: T.u :: T.u :: T.u :: T.u :: T.u :: T.u :: T.u :: T.u :: T.u :: T.u :: T.u :: T.u :: T.u :: T.u :: T.u :: T.u :: T.u :: T.u :: T.u :: T.u :: T.u :: T.u :: T.u :: T.u :: T.u :: T.u :: T.u :: T.u :: T.u :: T.u :: T.u :: T.u :: T.u :: T.u :: T.u :: T.u :: T.u :: T.u :: T.u :: [])
def P90 : List PT := [.us 4, (.bx [pI, pI, pI, pI, (.r .sn)]), .us 1, (.bx [pI, pI, pI, pI, (.v 49 [] 1 none)]), .us 42, (.own true 1), .us 2]
def S90 (x0 x1 x2 x3 x4 x5 x6 x7 : Int) (x8 : List R) : List T := (T.u :: T.u :: T.u :: T.u :: (T.bx [(tI x0), (tI x1), (tI x2), (tI x3), (T.r R.sn)]) :: T.u :: (T.bx [(tI x4), (tI x5), (tI x6), (tI x7), (T.v 49 [] 1 none)]) :: T.u :: T.u :: T.u :: T.u :: T.u :: T.u :: T.u :: T.u :: T.u :: T.u :: T.u :: T.u :: T.u :: T.u :: T.u :: T.u :: T.u :: T.u :: T.u :: T.u :: T.u :: T.u :: T.u :: T.u :: T.u :: T.u :: T.u :: T.u :: T.u :: T.u :: T.u :: T.u :: T.u :: T.u :: T.u :: T.u :: T.u :: T.u :: T.u :: T.u :: T.u :: T.u :: (T.own true 1 x8) :: T.u :: T.u :: [])
noncomputable def M70_7 {β : Type} (l70_7_0 : (Int → Int → Int → Int → Int → Int → Int → Int → Option β) → (Q33 β) → Q29 β) (l70_7_1 : (Int → Int → Int → Int → Int → Int → Int → Int → Option β) → (Q33 β) → Q30 β) (s : List T) : Option ((Ex → List T → Option β) → Option β) :=
  match gTs P85 (clean ((Hn 70).lp 7).1 s) [] with
  | some [.i x0, .i x1, .i x2, .i x3, .l x4, .i x5, .i x6, .i x7, .i x8, .i x9, .i xa, .i xb, .i xc, .i xd, .i xe, .i xf, .i xg, .i xh] => some fun kk => l70_7_0 (fun xi xj xk xl xm xn xo xp => kk (Ex.ex 0) (S89 xi xj xk xl xm xn xo xp)) (fun xq xr xs xt xu xv xw xx xy => kk (Ex.ex 0) (S90 xq xr xs xt xu xv xw xx xy)) x0 x1 x2 x3 x4 x5 x6 x7 x8 x9 xa xb xc xd xe xf xg xh
  | _ => (match gTs P86 (clean ((Hn 70).lp 7).1 s) [] with
  | some [.i xz, .i x10, .i x11, .i x12, .l x13, .i x14, .i x15, .i x16, .i x17, .i x18, .i x19, .i x1a, .i x1b, .i x1c, .i x1d, .i x1e, .i x1f, .i x1g, .l x1h] => some fun kk => l70_7_1 (fun xi xj xk xl xm xn xo xp => kk (Ex.ex 0) (S89 xi xj xk xl xm xn xo xp)) (fun xq xr xs xt xu xv xw xx xy => kk (Ex.ex 0) (S90 xq xr xs xt xu xv xw xx xy)) xz x10 x11 x12 x13 x14 x15 x16 x17 x18 x19 x1a x1b x1c x1d x1e x1f x1g x1h
  | _ => none)
theorem e70_7_0 {β : Type} (A : Pr) (B : Pk) (l70_10_0 : (Q29 β) → (Q30 β) → Q31 β) (l70_10_1 : (Q29 β) → (Q30 β) → Q32 β) (l70_7_0 : (Int → Int → Int → Int → Int → Int → Int → Int → Option β) → (Q33 β) → Q29 β) (l70_7_1 : (Int → Int → Int → Int → Int → Int → Int → Int → Option β) → (Q33 β) → Q30 β) (x0 x1 x2 x3 : Int) (x4 : List R) (x5 x6 x7 x8 x9 xa xb xc xd xe xf xg xh : Int) (kk : Ex → List T → Option β) :
    uTs P85 [.i x0, .i x1, .i x2, .i x3, .l x4, .i x5, .i x6, .i x7, .i x8, .i x9, .i xa, .i xb, .i xc, .i xd, .i xe, .i xf, .i xg, .i xh] (fun s _ => evK (mkK Try.prog A B [] [(10, M70_10 l70_10_0 l70_10_1)] (Hn 70).pt []) X70_7 s (fun e s' => match e with
      | .nm => (match M70_7 l70_7_0 l70_7_1 s' with | some h => h kk | none => none)
      | .ex m => kk (.ex m) (clean ((Hn 70).lp (firstReg X70_7)).2 s')
      | .rt => kk .rt (clean ((Hn 70).lp (firstReg X70_7)).2 s'))) = GL70_7_0 A B l70_10_0 l70_10_1 l70_7_0 l70_7_1 (fun xi xj xk xl xm xn xo xp => kk (Ex.ex 0) (S89 xi xj xk xl xm xn xo xp)) (fun xq xr xs xt xu xv xw xx xy => kk (Ex.ex 0) (S90 xq xr xs xt xu xv xw xx xy)) x0 x1 x2 x3 x4 x5 x6 x7 x8 x9 xa xb xc xd xe xf xg xh := by kernel_rfl
theorem e70_7_1 {β : Type} (A : Pr) (B : Pk) (l70_10_0 : (Q29 β) → (Q30 β) → Q31 β) (l70_10_1 : (Q29 β) → (Q30 β) → Q32 β) (l70_7_0 : (Int → Int → Int → Int → Int → Int → Int → Int → Option β) → (Q33 β) → Q29 β) (l70_7_1 : (Int → Int → Int → Int → Int → Int → Int → Int → Option β) → (Q33 β) → Q30 β) (x0 x1 x2 x3 : Int) (x4 : List R) (x5 x6 x7 x8 x9 xa xb xc xd xe xf xg xh : Int) (xi : List R) (kk : Ex → List T → Option β) :
    uTs P86 [.i x0, .i x1, .i x2, .i x3, .l x4, .i x5, .i x6, .i x7, .i x8, .i x9, .i xa, .i xb, .i xc, .i xd, .i xe, .i xf, .i xg, .i xh, .l xi] (fun s _ => evK (mkK Try.prog A B [] [(10, M70_10 l70_10_0 l70_10_1)] (Hn 70).pt []) X70_7 s (fun e s' => match e with
      | .nm => (match M70_7 l70_7_0 l70_7_1 s' with | some h => h kk | none => none)
      | .ex m => kk (.ex m) (clean ((Hn 70).lp (firstReg X70_7)).2 s')
      | .rt => kk .rt (clean ((Hn 70).lp (firstReg X70_7)).2 s'))) = GL70_7_1 A B l70_10_0 l70_10_1 l70_7_0 l70_7_1 (fun xj xk xl xm xn xo xp xq => kk (Ex.ex 0) (S89 xj xk xl xm xn xo xp xq)) (fun xr xs xt xu xv xw xx xy xz => kk (Ex.ex 0) (S90 xr xs xt xu xv xw xx xy xz)) x0 x1 x2 x3 x4 x5 x6 x7 x8 x9 xa xb xc xd xe xf xg xh xi := by kernel_rfl
theorem ol70_7 {β : Type} (N : Nat) : ∀ n, SndL (β := β) Try.prog Hn (Hn 70) X70_7 (M70_7 (L70_7_0 re rk N n) (L70_7_1 re rk N n))
  | 0 => by
    intro s h kk r ha hr
    unfold M70_7 at ha
    split at ha
    · cases ha; cases hr
    · split at ha
      · cases ha; cases hr
      · cases ha
  | n + 1 => by
    have ih := ol70_7 (β := β) N n
    intro s h kk r ha hr
    unfold M70_7 at ha
    split at ha
    · rename_i hs
      cases ha
      have hk := via_pat hs ((e70_7_0 re rk (L70_10_0 re rk N N) (L70_10_1 re rk N N) (L70_7_0 re rk N n) (L70_7_1 re rk N n) _ _ _ _ _ _ _ _ _ _ _ _ _ _ _ _ _ _ kk).trans hr)
      exact round_ok (show SndAll Try.prog Hn [] from trivial) (spots := [.lp X70_10]) (by kernel_rfl) ⟨cut_lp (id := 10) i70_10 (ol70_10 N N) (fun s kk => by kernel_rfl), trivial⟩ ih (hd := clean ((Hn 70).lp 7).1 s) (by rw [i70_7]) hk
    · split at ha
      · rename_i hs
        cases ha
        have hk := via_pat hs ((e70_7_1 re rk (L70_10_0 re rk N N) (L70_10_1 re rk N N) (L70_7_0 re rk N n) (L70_7_1 re rk N n) _ _ _ _ _ _ _ _ _ _ _ _ _ _ _ _ _ _ _ kk).trans hr)
        exact round_ok (show SndAll Try.prog Hn [] from trivial) (spots := [.lp X70_10]) (by kernel_rfl) ⟨cut_lp (id := 10) i70_10 (ol70_10 N N) (fun s kk => by kernel_rfl), trivial⟩ ih (hd := clean ((Hn 70).lp 7).1 s) (by rw [i70_7]) hk
      · cases ha
def G70_0 {β : Type} (A : Pr) (B : Pk) (f50_0 : Int → Int → Int → Int → List R → (KB β) → Option β) (f65_0 : Int → Int → Int → Int → (KB β) → Option β) (f102_0 : Int → Int → Int → Int → Int → Int → Int → Int → (KB β) → Option β) (l70_7_0 : (Int → Int → Int → Int → Int → Int → Int → Int → Option β) → (Q33 β) → Q29 β) (l70_7_1 : (Int → Int → Int → Int → Int → Int → Int → Int → Option β) → (Q33 β) → Q30 β) (x0 x1 x2 x3 : Int) (x4 : List R) (x5 x6 x7 x8 : Int) (k0 : Int → Int → Int → Int → Int → Option β) (k1 : Int → Int → Int → Int → List R → Int → Option β) : Option β :=
    f50_0 x0 x1 x2 x3 x4 (fun x9 =>
    match (A.bn x9) with
      | true => (k0 0 0 0 0 1)
      | false => (f65_0 x5 x6 x7 x8 (fun xa =>
        match (A.bn xa) with
          | true => (k0 0 0 0 0 2)
          | false => (f102_0 x0 x1 x2 x3 x5 x6 x7 x8 (fun xb =>
            match (A.bn xb) with
              | true => (k0 0 0 0 0 2)
              | false => (l70_7_0 (fun xc xd xe xf xg xh xi xj =>
                k0 xg xh xi xj 0) (fun xk xl xm xn xo xp xq xr xs =>
                k1 xo xp xq xr xs 0) x0 x1 x2 x3 x4 x5 x6 x7 x8 0 0 0 0 x5 x6 x7 x8 x6))))))
def F70_0 {β : Type} (A : Pr) (B : Pk) (N : Nat) (x0 x1 x2 x3 : Int) (x4 : List R) (x5 x6 x7 x8 : Int) (k0 : Int → Int → Int → Int → Int → Option β) (k1 : Int → Int → Int → Int → List R → Int → Option β) : Option β :=
  G70_0 A B (F50_0 A B N) (F65_0 A B N) (F102_0 A B N) (L70_7_0 A B N N) (L70_7_1 A B N N) x0 x1 x2 x3 x4 x5 x6 x7 x8 k0 k1
def M70_0 {β : Type} (f70_0 : Int → Int → Int → Int → List R → Int → Int → Int → Int → (Int → Int → Int → Int → Int → Option β) → (Int → Int → Int → Int → List R → Int → Option β) → Option β) (a : List T) : Option ((T → List (List T) → Option β) → Option β) :=
  match gTs P69 a [] with
  | some [.i x0, .i x1, .i x2, .i x3, .l x4, .i x5, .i x6, .i x7, .i x8] => some fun kk => f70_0 x0 x1 x2 x3 x4 x5 x6 x7 x8 (fun x9 xa xb xc xd => kk (T.tp true [(T.tp false [(tI x9), (tI xa), (tI xb), (tI xc), (T.r R.sn)]), (tI xd)]) []) (fun xe xf xg xh xi xj => kk (T.tp true [(T.tp false [(tI xe), (tI xf), (tI xg), (tI xh), (T.own true 1 xi)]), (tI xj)]) [])
  | _ => none
theorem e70_0 {β : Type} (A : Pr) (B : Pk) (f50_0 : Int → Int → Int → Int → List R → (KB β) → Option β) (f65_0 : Int → Int → Int → Int → (KB β) → Option β) (f102_0 : Int → Int → Int → Int → Int → Int → Int → Int → (KB β) → Option β) (l70_7_0 : (Int → Int → Int → Int → Int → Int → Int → Int → Option β) → (Q33 β) → Q29 β) (l70_7_1 : (Int → Int → Int → Int → Int → Int → Int → Int → Option β) → (Q33 β) → Q30 β) (x0 x1 x2 x3 : Int) (x4 : List R) (x5 x6 x7 x8 : Int) (kk : T → List (List T) → Option β) :
    uTs P69 [.i x0, .i x1, .i x2, .i x3, .l x4, .i x5, .i x6, .i x7, .i x8] (fun a _ => bodyK (mkK Try.prog A B [(50, M50_0 f50_0), (65, M65_0 f65_0), (102, M102_0 f102_0)] [(7, M70_7 l70_7_0 l70_7_1)] (Hn 70).pt []) Try.f70 a kk) = G70_0 A B f50_0 f65_0 f102_0 l70_7_0 l70_7_1 x0 x1 x2 x3 x4 x5 x6 x7 x8 (fun x9 xa xb xc xd => kk (T.tp true [(T.tp false [(tI x9), (tI xa), (tI xb), (tI xc), (T.r R.sn)]), (tI xd)]) []) (fun xe xf xg xh xi xj => kk (T.tp true [(T.tp false [(tI xe), (tI xf), (tI xg), (tI xh), (T.own true 1 xi)]), (tI xj)]) []) := by kernel_rfl
theorem o70_0 {β : Type} (N : Nat) : Snd (β := β) Try.prog Hn 70 (M70_0 (F70_0 re rk N)) := by
  intro a h kk r ha hr
  unfold M70_0 at ha
  split at ha
  · rename_i hs
    cases ha
    have hk := via_pat hs ((e70_0 re rk (F50_0 re rk N) (F65_0 re rk N) (F102_0 re rk N) (L70_7_0 re rk N N) (L70_7_1 re rk N N) _ _ _ _ _ _ _ _ _ kk).trans hr)
    exact fn_ok (f := 70) (fn := Try.f70) (H := Hn) (by kernel_rfl) (show SndAll Try.prog Hn [(50, M50_0 (F50_0 re rk N)), (65, M65_0 (F65_0 re rk N)), (102, M102_0 (F102_0 re rk N))] from ⟨o50_0 N, o65_0 N, o102_0 N, trivial⟩) (spots := [.lp X70_7]) (by kernel_rfl) ⟨cut_lp (id := 7) i70_7 (ol70_7 N N) (fun s kk => by kernel_rfl), trivial⟩ hk
  · cases ha
noncomputable def X37_11 : Code := atF Try.f37 [true, true, true, true, true, true, true, false, true, false, false]
theorem i37_11 : firstReg X37_11 = 11 := by kernel_rfl
def GL37_11_0 {β : Type} (A : Pr) (B : Pk) (f51_0 : Int → Int → Int → Int → Int → Int → (K4 β) → Option β) (f70_0 : Int → Int → Int → Int → List R → Int → Int → Int → Int → (Int → Int → Int → Int → Int → Option β) → (Int → Int → Int → Int → List R → Int → Option β) → Option β) (l37_11_0 : (Q34 β) → (Q35 β) → (Q36 β) → (Q37 β) → Q38 β) (l37_11_1 : (Q34 β) → (Q35 β) → (Q36 β) → (Q37 β) → Q39 β) (k0 : Q34 β) (k1 : Q35 β) (k2 : Q36 β) (k3 : Q37 β) (x0 x1 x2 x3 x4 x5 : Int) (x6 x7 : List R) (x8 x9 xa xb xc xd xe xf xg xh xi xj xk xl xm xn xo xp : Int) (xq : List R) (xr xs : Int) : Option β :=
    match (A.cm .lss xs xr) with
    | true => (match (A.ix xs (A.len xq)) with
      | some xt => (match (B.okC [(Sh.i .i64), Sh.b, (Sh.i .i64), (Sh.i .i64)] xq xt 0) with
        | true => (match (A.ix xs (A.len x7)) with
          | some xu => (match (B.okE [(Sh.i .i64), (Sh.i .i64), (Sh.i .i64), (Sh.i .i64), (Sh.sl 1 (Sh.i .i64))] true x7 xu) with
            | true => (f51_0 xe xf xg xh (B.ci xq xt 2) (B.ci xq xt 3) (fun xv xw xx xy =>
              f70_0 (B.ci x7 xu 0) (B.ci x7 xu 1) (B.ci x7 xu 2) (B.ci x7 xu 3) (B.cl x7 xu 4) xv xw xx xy (fun xz x10 x11 x12 x13 =>
                match (A.cm .neq x13 0) with
                  | true => (k0 0 0 0 0 0 0 2 xk xl xm xn xo xp xq)
                  | false => (match (A.cm .eql (A.on 0) 0) with
                    | true => (k0 0 0 0 0 0 0 2 xk xl xm xn xo xp xq)
                    | false => (match (A.small (A.len [(R.a [(R.i .i64 xz), (R.i .i64 x10), (R.i .i64 x11), (R.i .i64 x12), R.sn])]) 56) with
                      | true => (l37_11_1 k0 k1 k2 k3 x0 x1 x2 x3 x4 x5 x6 x7 x8 x9 xa xb xc xd xe xf xg xh xi xj xk xl xm xn xo xp xq xr (A.ar .add .i64 xs 1) [(R.a [(R.i .i64 xz), (R.i .i64 x10), (R.i .i64 x11), (R.i .i64 x12), R.sn])])
                      | false => none))) (fun x14 x15 x16 x17 x18 x19 =>
                match (A.cm .neq x19 0) with
                  | true => (k0 0 0 0 0 0 0 2 xk xl xm xn xo xp xq)
                  | false => (match (A.cm .eql (A.on (A.len x18)) 0) with
                    | true => (k0 0 0 0 0 0 0 2 xk xl xm xn xo xp xq)
                    | false => (match (A.small (A.len [(R.a [(R.i .i64 x14), (R.i .i64 x15), (R.i .i64 x16), (R.i .i64 x17), (R.ro 1 x18)])]) 56) with
                      | true => (l37_11_1 k0 k1 k2 k3 x0 x1 x2 x3 x4 x5 x6 x7 x8 x9 xa xb xc xd xe xf xg xh xi xj xk xl xm xn xo xp xq xr (A.ar .add .i64 xs 1) [(R.a [(R.i .i64 x14), (R.i .i64 x15), (R.i .i64 x16), (R.i .i64 x17), (R.ro 1 x18)])])
                      | false => none)))))
            | false => none)
          | none => none)
        | false => none)
      | none => none)
    | false => (k1 x8 x9 xa xb xc xd xk xl xm xn xo xp xq)
def GL37_11_1 {β : Type} (A : Pr) (B : Pk) (f51_0 : Int → Int → Int → Int → Int → Int → (K4 β) → Option β) (f70_0 : Int → Int → Int → Int → List R → Int → Int → Int → Int → (Int → Int → Int → Int → Int → Option β) → (Int → Int → Int → Int → List R → Int → Option β) → Option β) (l37_11_0 : (Q34 β) → (Q35 β) → (Q36 β) → (Q37 β) → Q38 β) (l37_11_1 : (Q34 β) → (Q35 β) → (Q36 β) → (Q37 β) → Q39 β) (k0 : Q34 β) (k1 : Q35 β) (k2 : Q36 β) (k3 : Q37 β) (x0 x1 x2 x3 x4 x5 : Int) (x6 x7 : List R) (x8 x9 xa xb xc xd xe xf xg xh xi xj xk xl xm xn xo xp : Int) (xq : List R) (xr xs : Int) (xt : List R) : Option β :=
    match (A.cm .lss xs xr) with
    | true => (match (A.ix xs (A.len xq)) with
      | some xu => (match (B.okC [(Sh.i .i64), Sh.b, (Sh.i .i64), (Sh.i .i64)] xq xu 0) with
        | true => (match (A.ix xs (A.len x7)) with
          | some xv => (match (B.okE [(Sh.i .i64), (Sh.i .i64), (Sh.i .i64), (Sh.i .i64), (Sh.sl 1 (Sh.i .i64))] true x7 xv) with
            | true => (f51_0 xe xf xg xh (B.ci xq xu 2) (B.ci xq xu 3) (fun xw xx xy xz =>
              f70_0 (B.ci x7 xv 0) (B.ci x7 xv 1) (B.ci x7 xv 2) (B.ci x7 xv 3) (B.cl x7 xv 4) xw xx xy xz (fun x10 x11 x12 x13 x14 =>
                match (A.cm .neq x14 0) with
                  | true => (k2 0 0 0 0 0 0 2 xk xl xm xn xo xp xq xt)
                  | false => (match (A.cm .eql (A.on 0) 0) with
                    | true => (k2 0 0 0 0 0 0 2 xk xl xm xn xo xp xq xt)
                    | false => (match (A.small (A.len (A.app xt [(R.a [(R.i .i64 x10), (R.i .i64 x11), (R.i .i64 x12), (R.i .i64 x13), R.sn])])) 56) with
                      | true => (l37_11_1 k0 k1 k2 k3 x0 x1 x2 x3 x4 x5 x6 x7 x8 x9 xa xb xc xd xe xf xg xh xi xj xk xl xm xn xo xp xq xr (A.ar .add .i64 xs 1) (A.app xt [(R.a [(R.i .i64 x10), (R.i .i64 x11), (R.i .i64 x12), (R.i .i64 x13), R.sn])]))
                      | false => none))) (fun x15 x16 x17 x18 x19 x1a =>
                match (A.cm .neq x1a 0) with
                  | true => (k2 0 0 0 0 0 0 2 xk xl xm xn xo xp xq xt)
                  | false => (match (A.cm .eql (A.on (A.len x19)) 0) with
                    | true => (k2 0 0 0 0 0 0 2 xk xl xm xn xo xp xq xt)
                    | false => (match (A.small (A.len (A.app xt [(R.a [(R.i .i64 x15), (R.i .i64 x16), (R.i .i64 x17), (R.i .i64 x18), (R.ro 1 x19)])])) 56) with
                      | true => (l37_11_1 k0 k1 k2 k3 x0 x1 x2 x3 x4 x5 x6 x7 x8 x9 xa xb xc xd xe xf xg xh xi xj xk xl xm xn xo xp xq xr (A.ar .add .i64 xs 1) (A.app xt [(R.a [(R.i .i64 x15), (R.i .i64 x16), (R.i .i64 x17), (R.i .i64 x18), (R.ro 1 x19)])]))
                      | false => none)))))
            | false => none)
          | none => none)
        | false => none)
      | none => none)
    | false => (k3 x8 x9 xa xb xc xd xk xl xm xn xo xp xq xt)
mutual
def L37_11_0 {β : Type} (A : Pr) (B : Pk) (N : Nat) : Nat → (Q34 β) → (Q35 β) → (Q36 β) → (Q37 β) → Q38 β
  | 0, _, _, _, _, _, _, _, _, _, _, _, _, _, _, _, _, _, _, _, _, _, _, _, _, _, _, _, _, _, _, _, _, _ => none
  | n + 1, k0, k1, k2, k3, x0, x1, x2, x3, x4, x5, x6, x7, x8, x9, xa, xb, xc, xd, xe, xf, xg, xh, xi, xj, xk, xl, xm, xn, xo, xp, xq, xr, xs =>
    GL37_11_0 A B (F51_0 A B N) (F70_0 A B N) (L37_11_0 A B N n) (L37_11_1 A B N n) k0 k1 k2 k3 x0 x1 x2 x3 x4 x5 x6 x7 x8 x9 xa xb xc xd xe xf xg xh xi xj xk xl xm xn xo xp xq xr xs
def L37_11_1 {β : Type} (A : Pr) (B : Pk) (N : Nat) : Nat → (Q34 β) → (Q35 β) → (Q36 β) → (Q37 β) → Q39 β
  | 0, _, _, _, _, _, _, _, _, _, _, _, _, _, _, _, _, _, _, _, _, _, _, _, _, _, _, _, _, _, _, _, _, _, _ => none
  | n + 1, k0, k1, k2, k3, x0, x1, x2, x3, x4, x5, x6, x7, x8, x9, xa, xb, xc, xd, xe, xf, xg, xh, xi, xj, xk, xl, xm, xn, xo, xp, xq, xr, xs, xt =>
    GL37_11_1 A B (F51_0 A B N) (F70_0 A B N) (L37_11_0 A B N n) (L37_11_1 A B N n) k0 k1 k2 k3 x0 x1 x2 x3 x4 x5 x6 x7 x8 x9 xa xb xc xd xe xf xg xh xi xj xk xl xm xn xo xp xq xr xs xt
end
def P91 : List PT := [.us 4, (.bx [pI, pI, pI, pI, pI, pI, (.r .sn), (.r .sn)]), pI, .us 2, (.bx [pI, pI, pI, pI, pI, pI, (.v 24 [] 4 none), (.r .sn)]), .us 15, (.own true 4), .us 58]
def S91 (x0 x1 x2 x3 x4 x5 x6 x7 x8 x9 xa xb xc : Int) (xd : List R) : List T := (T.u :: T.u :: T.u :: T.u :: (T.bx [(tI x0), (tI x1), (tI x2), (tI x3), (tI x4), (tI x5), (T.r R.sn), (T.r R.sn)]) :: (tI x6) :: T.u :: T.u :: (T.bx [(tI x7), (tI x8), (tI x9), (tI xa), (tI xb), (tI xc), (T.v 24 [] 4 none), (T.r R.sn)]) :: T.u :: T.u :: T.u :: T.u :: T.u :: T.u :: T.u :: T.u :: T.u :: T.u :: T.u :: T.u :: T.u :: T.u :: T.u :: (T.own true 4 xd) :: T.u :: T.u :: T.u :: T.u :: T.u :: T.u :: T.u :: T.u :: T.u :: T.u :: T.u :: T.u :: T.u :: T.u :: T.u :: T.u :: T.u :: T.u :: T.u :: T.u :: T.u :: T.u :: T.u :: T.u :: T.u :: T.u :: T.u :: T.u :: T.u :: T.u :: T.u :: T.u :: T.u :: T.u :: T.u :: T.u :: T.u :: T.u :: T.u :: T.u :: T.u :: T.u :: T.u :: T.u :: T.u :: T.u :: T.u :: T.u :: T.u :: T.u :: T.u :: T.u :: T.u :: T.u :: T.u :: T.u :: T.u :: T.u :: [])
def P92 : List PT := [.us 4, (.bx [pI, pI, pI, pI, pI, pI, (.r .sn), (.r .sn)]), .us 3, (.bx [pI, pI, pI, pI, pI, pI, (.v 24 [] 4 none), (.r .sn)]), .us 15, (.own true 4), .us 58]
def S92 (x0 x1 x2 x3 x4 x5 x6 x7 x8 x9 xa xb : Int) (xc : List R) : List T := (T.u :: T.u :: T.u :: T.u :: (T.bx [(tI x0), (tI x1), (tI x2), (tI x3), (tI x4), (tI x5), (T.r R.sn), (T.r R.sn)]) :: T.u :: T.u :: T.u :: (T.bx [(tI x6), (tI x7), (tI x8), (tI x9), (tI xa), (tI xb), (T.v 24 [] 4 none), (T.r R.sn)]) :: T.u :: T.u :: T.u :: T.u :: T.u :: T.u :: T.u :: T.u :: T.u :: T.u :: T.u :: T.u :: T.u :: T.u :: T.u :: (T.own true 4 xc) :: T.u :: T.u :: T.u :: T.u :: T.u :: T.u :: T.u :: T.u :: T.u :: T.u :: T.u :: T.u :: T.u :: T.u :: T.u :: T.u :: T.u :: T.u :: T.u :: T.u :: T.u :: T.u :: T.u :: T.u :: T.u :: T.u :: T.u :: T.u :: T.u :: T.u :: T.u :: T.u :: T.u :: T.u :: T.u :: T.u :: T.u :: T.u :: T.u :: T.u :: T.u :: T.u :: T.u :: T.u :: T.u :: T.u :: T.u :: T.u :: T.u :: T.u :: T.u :: T.u :: T.u :: T.u :: T.u :: T.u :: T.u :: T.u :: [])
def P93 : List PT := [.us 4, (.bx [pI, pI, pI, pI, pI, pI, (.r .sn), (.r .sn)]), pI, .us 2, (.bx [pI, pI, pI, pI, pI, pI, (.v 24 [] 4 none), (.v 79 [] 5 none)]), .us 15, (.own true 4), .us 54, (.own false 5), .us 3]
def S93 (x0 x1 x2 x3 x4 x5 x6 x7 x8 x9 xa xb xc : Int) (xd xe : List R) : List T := (T.u :: T.u :: T.u :: T.u :: (T.bx [(tI x0), (tI x1), (tI x2), (tI x3), (tI x4), (tI x5), (T.r R.sn), (T.r R.sn)]) :: (tI x6) :: T.u :: T.u :: (T.bx [(tI x7), (tI x8), (tI x9), (tI xa), (tI xb), (tI xc), (T.v 24 [] 4 none), (T.v 79 [] 5 none)]) :: T.u :: T.u :: T.u :: T.u :: T.u :: T.u :: T.u :: T.u :: T.u :: T.u :: T.u :: T.u :: T.u :: T.u :: T.u :: (T.own true 4 xd) :: T.u :: T.u :: T.u :: T.u :: T.u :: T.u :: T.u :: T.u :: T.u :: T.u :: T.u :: T.u :: T.u :: T.u :: T.u :: T.u :: T.u :: T.u :: T.u :: T.u :: T.u :: T.u :: T.u :: T.u :: T.u :: T.u :: T.u :: T.u :: T.u :: T.u :: T.u :: T.u :: T.u :: T.u :: T.u :: T.u :: T.u :: T.u :: T.u :: T.u :: T.u :: T.u :: T.u :: T.u :: T.u :: T.u :: T.u :: T.u :: T.u :: T.u :: T.u :: T.u :: T.u :: T.u :: (T.own false 5 xe) :: T.u :: T.u :: T.u :: [])
def P94 : List PT := [.us 4, (.bx [pI, pI, pI, pI, pI, pI, (.r .sn), (.r .sn)]), .us 3, (.bx [pI, pI, pI, pI, pI, pI, (.v 24 [] 4 none), (.v 79 [] 5 none)]), .us 15, (.own true 4), .us 54, (.own false 5), .us 3]
def S94 (x0 x1 x2 x3 x4 x5 x6 x7 x8 x9 xa xb : Int) (xc xd : List R) : List T := (T.u :: T.u :: T.u :: T.u :: (T.bx [(tI x0), (tI x1), (tI x2), (tI x3), (tI x4), (tI x5), (T.r R.sn), (T.r R.sn)]) :: T.u :: T.u :: T.u :: (T.bx [(tI x6), (tI x7), (tI x8), (tI x9), (tI xa), (tI xb), (T.v 24 [] 4 none), (T.v 79 [] 5 none)]) :: T.u :: T.u :: T.u :: T.u :: T.u :: T.u :: T.u :: T.u :: T.u :: T.u :: T.u :: T.u :: T.u :: T.u :: T.u :: (T.own true 4 xc) :: T.u :: T.u :: T.u :: T.u :: T.u :: T.u :: T.u :: T.u :: T.u :: T.u :: T.u :: T.u :: T.u :: T.u :: T.u :: T.u :: T.u :: T.u :: T.u :: T.u :: T.u :: T.u :: T.u :: T.u :: T.u :: T.u :: T.u :: T.u :: T.u :: T.u :: T.u :: T.u :: T.u :: T.u :: T.u :: T.u :: T.u :: T.u :: T.u :: T.u :: T.u :: T.u :: T.u :: T.u :: T.u :: T.u :: T.u :: T.u :: T.u :: T.u :: T.u :: T.u :: T.u :: T.u :: (T.own false 5 xd) :: T.u :: T.u :: T.u :: [])
def P95 : List PT := [.us 2, (.bx [pI, pI, pI, pI, pI, pI, (.r (.ro 4)), (.r (.ro 5))]), .us 1, (.bx [pI, pI, pI, pI, pI, pI, (.r .sn), (.r .sn)]), .us 2, (.bx [pI, pI, pI, pI, pI, pI, (.v 24 [] 4 none)]), (.bx [pI, pI, pI, pI, pI, pI, (.v 24 [] 4 none), (.r .sn)]), .us 15, (.own true 4), .us 18, (.v 24 [] 4 none), pI, pI, .us 37]
def P96 : List PT := [.us 2, (.bx [pI, pI, pI, pI, pI, pI, (.r (.ro 4)), (.r (.ro 5))]), .us 1, (.bx [pI, pI, pI, pI, pI, pI, (.r .sn), (.r .sn)]), .us 2, (.bx [pI, pI, pI, pI, pI, pI, (.v 24 [] 4 none)]), (.bx [pI, pI, pI, pI, pI, pI, (.v 24 [] 4 none), (.v 79 [] 5 none)]), .us 15, (.own true 4), .us 18, (.v 24 [] 4 none), pI, pI, .us 33, (.own false 5), .us 3]
noncomputable def M37_11 {β : Type} (l37_11_0 : (Q34 β) → (Q35 β) → (Q36 β) → (Q37 β) → Q38 β) (l37_11_1 : (Q34 β) → (Q35 β) → (Q36 β) → (Q37 β) → Q39 β) (s : List T) : Option ((Ex → List T → Option β) → Option β) :=
  match gTs P95 (clean ((Hn 37).lp 11).1 s) [] with
  | some [.i x0, .i x1, .i x2, .i x3, .i x4, .i x5, .l x6, .l x7, .i x8, .i x9, .i xa, .i xb, .i xc, .i xd, .i xe, .i xf, .i xg, .i xh, .i xi, .i xj, .i xk, .i xl, .i xm, .i xn, .i xo, .i xp, .l xq, .i xr, .i xs] => some fun kk => l37_11_0 (fun xt xu xv xw xx xy xz x10 x11 x12 x13 x14 x15 x16 => kk Ex.rt (S91 xt xu xv xw xx xy xz x10 x11 x12 x13 x14 x15 x16)) (fun x17 x18 x19 x1a x1b x1c x1d x1e x1f x1g x1h x1i x1j => kk (Ex.ex 0) (S92 x17 x18 x19 x1a x1b x1c x1d x1e x1f x1g x1h x1i x1j)) (fun x1k x1l x1m x1n x1o x1p x1q x1r x1s x1t x1u x1v x1w x1x x1y => kk Ex.rt (S93 x1k x1l x1m x1n x1o x1p x1q x1r x1s x1t x1u x1v x1w x1x x1y)) (fun x1z x20 x21 x22 x23 x24 x25 x26 x27 x28 x29 x2a x2b x2c => kk (Ex.ex 0) (S94 x1z x20 x21 x22 x23 x24 x25 x26 x27 x28 x29 x2a x2b x2c)) x0 x1 x2 x3 x4 x5 x6 x7 x8 x9 xa xb xc xd xe xf xg xh xi xj xk xl xm xn xo xp xq xr xs
  | _ => (match gTs P96 (clean ((Hn 37).lp 11).1 s) [] with
  | some (.i x2d :: .i x2e :: .i x2f :: .i x2g :: .i x2h :: .i x2i :: .l x2j :: .l x2k :: .i x2l :: .i x2m :: .i x2n :: .i x2o :: .i x2p :: .i x2q :: .i x2r :: .i x2s :: .i x2t :: .i x2u :: .i x2v :: .i x2w :: .i x2x :: .i x2y :: .i x2z :: .i x30 :: .i x31 :: .i x32 :: .l x33 :: .i x34 :: .i x35 :: .l x36 :: []) => some fun kk => l37_11_1 (fun xt xu xv xw xx xy xz x10 x11 x12 x13 x14 x15 x16 => kk Ex.rt (S91 xt xu xv xw xx xy xz x10 x11 x12 x13 x14 x15 x16)) (fun x17 x18 x19 x1a x1b x1c x1d x1e x1f x1g x1h x1i x1j => kk (Ex.ex 0) (S92 x17 x18 x19 x1a x1b x1c x1d x1e x1f x1g x1h x1i x1j)) (fun x1k x1l x1m x1n x1o x1p x1q x1r x1s x1t x1u x1v x1w x1x x1y => kk Ex.rt (S93 x1k x1l x1m x1n x1o x1p x1q x1r x1s x1t x1u x1v x1w x1x x1y)) (fun x1z x20 x21 x22 x23 x24 x25 x26 x27 x28 x29 x2a x2b x2c => kk (Ex.ex 0) (S94 x1z x20 x21 x22 x23 x24 x25 x26 x27 x28 x29 x2a x2b x2c)) x2d x2e x2f x2g x2h x2i x2j x2k x2l x2m x2n x2o x2p x2q x2r x2s x2t x2u x2v x2w x2x x2y x2z x30 x31 x32 x33 x34 x35 x36
  | _ => none)
theorem e37_11_0 {β : Type} (A : Pr) (B : Pk) (f51_0 : Int → Int → Int → Int → Int → Int → (K4 β) → Option β) (f70_0 : Int → Int → Int → Int → List R → Int → Int → Int → Int → (Int → Int → Int → Int → Int → Option β) → (Int → Int → Int → Int → List R → Int → Option β) → Option β) (l37_11_0 : (Q34 β) → (Q35 β) → (Q36 β) → (Q37 β) → Q38 β) (l37_11_1 : (Q34 β) → (Q35 β) → (Q36 β) → (Q37 β) → Q39 β) (x0 x1 x2 x3 x4 x5 : Int) (x6 x7 : List R) (x8 x9 xa xb xc xd xe xf xg xh xi xj xk xl xm xn xo xp : Int) (xq : List R) (xr xs : Int) (kk : Ex → List T → Option β) :
    uTs P95 [.i x0, .i x1, .i x2, .i x3, .i x4, .i x5, .l x6, .l x7, .i x8, .i x9, .i xa, .i xb, .i xc, .i xd, .i xe, .i xf, .i xg, .i xh, .i xi, .i xj, .i xk, .i xl, .i xm, .i xn, .i xo, .i xp, .l xq, .i xr, .i xs] (fun s _ => evK (mkK Try.prog A B [(51, M51_0 f51_0), (70, M70_0 f70_0)] [] (Hn 37).pt []) X37_11 s (fun e s' => match e with
      | .nm => (match M37_11 l37_11_0 l37_11_1 s' with | some h => h kk | none => none)
      | .ex m => kk (.ex m) (clean ((Hn 37).lp (firstReg X37_11)).2 s')
      | .rt => kk .rt (clean ((Hn 37).lp (firstReg X37_11)).2 s'))) = GL37_11_0 A B f51_0 f70_0 l37_11_0 l37_11_1 (fun xt xu xv xw xx xy xz x10 x11 x12 x13 x14 x15 x16 => kk Ex.rt (S91 xt xu xv xw xx xy xz x10 x11 x12 x13 x14 x15 x16)) (fun x17 x18 x19 x1a x1b x1c x1d x1e x1f x1g x1h x1i x1j => kk (Ex.ex 0) (S92 x17 x18 x19 x1a x1b x1c x1d x1e x1f x1g x1h x1i x1j)) (fun x1k x1l x1m x1n x1o x1p x1q x1r x1s x1t x1u x1v x1w x1x x1y => kk Ex.rt (S93 x1k x1l x1m x1n x1o x1p x1q x1r x1s x1t x1u x1v x1w x1x x1y)) (fun x1z x20 x21 x22 x23 x24 x25 x26 x27 x28 x29 x2a x2b x2c => kk (Ex.ex 0) (S94 x1z x20 x21 x22 x23 x24 x25 x26 x27 x28 x29 x2a x2b x2c)) x0 x1 x2 x3 x4 x5 x6 x7 x8 x9 xa xb xc xd xe xf xg xh xi xj xk xl xm xn xo xp xq xr xs := by kernel_rfl
theorem e37_11_1 {β : Type} (A : Pr) (B : Pk) (f51_0 : Int → Int → Int → Int → Int → Int → (K4 β) → Option β) (f70_0 : Int → Int → Int → Int → List R → Int → Int → Int → Int → (Int → Int → Int → Int → Int → Option β) → (Int → Int → Int → Int → List R → Int → Option β) → Option β) (l37_11_0 : (Q34 β) → (Q35 β) → (Q36 β) → (Q37 β) → Q38 β) (l37_11_1 : (Q34 β) → (Q35 β) → (Q36 β) → (Q37 β) → Q39 β) (x0 x1 x2 x3 x4 x5 : Int) (x6 x7 : List R) (x8 x9 xa xb xc xd xe xf xg xh xi xj xk xl xm xn xo xp : Int) (xq : List R) (xr xs : Int) (xt : List R) (kk : Ex → List T → Option β) :
    uTs P96 (.i x0 :: .i x1 :: .i x2 :: .i x3 :: .i x4 :: .i x5 :: .l x6 :: .l x7 :: .i x8 :: .i x9 :: .i xa :: .i xb :: .i xc :: .i xd :: .i xe :: .i xf :: .i xg :: .i xh :: .i xi :: .i xj :: .i xk :: .i xl :: .i xm :: .i xn :: .i xo :: .i xp :: .l xq :: .i xr :: .i xs :: .l xt :: []) (fun s _ => evK (mkK Try.prog A B [(51, M51_0 f51_0), (70, M70_0 f70_0)] [] (Hn 37).pt []) X37_11 s (fun e s' => match e with
      | .nm => (match M37_11 l37_11_0 l37_11_1 s' with | some h => h kk | none => none)
      | .ex m => kk (.ex m) (clean ((Hn 37).lp (firstReg X37_11)).2 s')
      | .rt => kk .rt (clean ((Hn 37).lp (firstReg X37_11)).2 s'))) = GL37_11_1 A B f51_0 f70_0 l37_11_0 l37_11_1 (fun xu xv xw xx xy xz x10 x11 x12 x13 x14 x15 x16 x17 => kk Ex.rt (S91 xu xv xw xx xy xz x10 x11 x12 x13 x14 x15 x16 x17)) (fun x18 x19 x1a x1b x1c x1d x1e x1f x1g x1h x1i x1j x1k => kk (Ex.ex 0) (S92 x18 x19 x1a x1b x1c x1d x1e x1f x1g x1h x1i x1j x1k)) (fun x1l x1m x1n x1o x1p x1q x1r x1s x1t x1u x1v x1w x1x x1y x1z => kk Ex.rt (S93 x1l x1m x1n x1o x1p x1q x1r x1s x1t x1u x1v x1w x1x x1y x1z)) (fun x20 x21 x22 x23 x24 x25 x26 x27 x28 x29 x2a x2b x2c x2d => kk (Ex.ex 0) (S94 x20 x21 x22 x23 x24 x25 x26 x27 x28 x29 x2a x2b x2c x2d)) x0 x1 x2 x3 x4 x5 x6 x7 x8 x9 xa xb xc xd xe xf xg xh xi xj xk xl xm xn xo xp xq xr xs xt := by kernel_rfl
theorem ol37_11 {β : Type} (N : Nat) : ∀ n, SndL (β := β) Try.prog Hn (Hn 37) X37_11 (M37_11 (L37_11_0 re rk N n) (L37_11_1 re rk N n))
  | 0 => by
    intro s h kk r ha hr
    unfold M37_11 at ha
    split at ha
    · cases ha; cases hr
    · split at ha
      · cases ha; cases hr
      · cases ha
  | n + 1 => by
    have ih := ol37_11 (β := β) N n
    intro s h kk r ha hr
    unfold M37_11 at ha
    split at ha
    · rename_i hs
      cases ha
      have hk := via_pat hs ((e37_11_0 re rk (F51_0 re rk N) (F70_0 re rk N) (L37_11_0 re rk N n) (L37_11_1 re rk N n) _ _ _ _ _ _ _ _ _ _ _ _ _ _ _ _ _ _ _ _ _ _ _ _ _ _ _ _ _ kk).trans hr)
      exact round_ok (show SndAll Try.prog Hn [(51, M51_0 (F51_0 re rk N)), (70, M70_0 (F70_0 re rk N))] from ⟨o51_0 N, o70_0 N, trivial⟩) (spots := []) (by kernel_rfl) trivial ih (hd := clean ((Hn 37).lp 11).1 s) (by rw [i37_11]) hk
    · split at ha
      · rename_i hs
        cases ha
        have hk := via_pat hs ((e37_11_1 re rk (F51_0 re rk N) (F70_0 re rk N) (L37_11_0 re rk N n) (L37_11_1 re rk N n) _ _ _ _ _ _ _ _ _ _ _ _ _ _ _ _ _ _ _ _ _ _ _ _ _ _ _ _ _ _ kk).trans hr)
        exact round_ok (show SndAll Try.prog Hn [(51, M51_0 (F51_0 re rk N)), (70, M70_0 (F70_0 re rk N))] from ⟨o51_0 N, o70_0 N, trivial⟩) (spots := []) (by kernel_rfl) trivial ih (hd := clean ((Hn 37).lp 11).1 s) (by rw [i37_11]) hk
      · cases ha
def G37_0 {β : Type} (A : Pr) (B : Pk) (f25_0 : Int → Int → Int → Int → Int → Int → List R → List R → (KI β) → Option β) (f64_0 : Int → Int → Int → Int → Int → Int → Int → Int → (K4 β) → Option β) (f65_0 : Int → Int → Int → Int → (KB β) → Option β) (f66_0 : Int → Int → Int → Int → (KB β) → Option β) (l37_11_0 : (Q34 β) → (Q35 β) → (Q36 β) → (Q37 β) → Q38 β) (l37_11_1 : (Q34 β) → (Q35 β) → (Q36 β) → (Q37 β) → Q39 β) (x0 x1 x2 x3 x4 x5 : Int) (x6 x7 : List R) (x8 x9 xa xb : Int) (k0 : Int → Int → Int → Int → Int → Int → Int → Option β) (k1 : Int → Int → Int → Int → Int → Int → List R → Int → Option β) (k2 : Q25 β) : Option β :=
    f25_0 x0 x1 x2 x3 x4 x5 x6 x7 (fun xc =>
    match (A.cm .neq xc 0) with
      | true => (k0 0 0 0 0 0 0 xc)
      | false => (match (A.small (A.len (A.app [] x6)) 32) with
        | true => (f64_0 x0 x1 x2 x3 x8 x9 xa xb (fun xd xe xf xg =>
          f65_0 x8 x9 xa xb (fun xh =>
            match (A.bn xh) with
              | true => (k0 0 0 0 0 0 0 2)
              | false => (f66_0 xd xe xf xg (fun xi =>
                match xi with
                  | true => (k0 0 0 0 0 0 0 2)
                  | false => (l37_11_0 (fun xj xk xl xm xn xo xp xq xr xs xt xu xv xw =>
                    k0 xj xk xl xm xn xo xp) (fun xx xy xz x10 x11 x12 x13 x14 x15 x16 x17 x18 x19 =>
                    k1 x13 x14 x15 x16 x17 x18 x19 0) (fun x1a x1b x1c x1d x1e x1f x1g x1h x1i x1j x1k x1l x1m x1n x1o =>
                    k0 x1a x1b x1c x1d x1e x1f x1g) (fun x1p x1q x1r x1s x1t x1u x1v x1w x1x x1y x1z x20 x21 x22 =>
                    k2 x1v x1w x1x x1y x1z x20 x21 x22 0) x0 x1 x2 x3 x4 x5 x6 x7 0 0 0 0 0 0 xd xe xf xg x4 x5 xd xe xf xg x4 x5 (A.app [] x6) (A.on (A.len (A.app [] x6))) 0))))))
        | false => none))
def F37_0 {β : Type} (A : Pr) (B : Pk) (N : Nat) (x0 x1 x2 x3 x4 x5 : Int) (x6 x7 : List R) (x8 x9 xa xb : Int) (k0 : Int → Int → Int → Int → Int → Int → Int → Option β) (k1 : Int → Int → Int → Int → Int → Int → List R → Int → Option β) (k2 : Q25 β) : Option β :=
  G37_0 A B (F25_0 A B N) (F64_0 A B N) (F65_0 A B N) (F66_0 A B N) (L37_11_0 A B N N) (L37_11_1 A B N N) x0 x1 x2 x3 x4 x5 x6 x7 x8 x9 xa xb k0 k1 k2
def M37_0 {β : Type} (f37_0 : Int → Int → Int → Int → Int → Int → List R → List R → Int → Int → Int → Int → (Int → Int → Int → Int → Int → Int → Int → Option β) → (Int → Int → Int → Int → Int → Int → List R → Int → Option β) → (Q25 β) → Option β) (a : List T) : Option ((T → List (List T) → Option β) → Option β) :=
  match gTs P76 a [] with
  | some [.i x0, .i x1, .i x2, .i x3, .i x4, .i x5, .l x6, .l x7, .i x8, .i x9, .i xa, .i xb] => some fun kk => f37_0 x0 x1 x2 x3 x4 x5 x6 x7 x8 x9 xa xb (fun xc xd xe xf xg xh xi => kk (T.tp true [(T.tp false [(tI xc), (tI xd), (tI xe), (tI xf), (tI xg), (tI xh), (T.r R.sn), (T.r R.sn)]), (tI xi)]) []) (fun xj xk xl xm xn xo xp xq => kk (T.tp true [(T.tp false [(tI xj), (tI xk), (tI xl), (tI xm), (tI xn), (tI xo), (T.own true 4 xp), (T.r R.sn)]), (tI xq)]) []) (fun xr xs xt xu xv xw xx xy xz => kk (T.tp true [(T.tp false [(tI xr), (tI xs), (tI xt), (tI xu), (tI xv), (tI xw), (T.own true 4 xx), (T.own false 5 xy)]), (tI xz)]) [])
  | _ => none
end
