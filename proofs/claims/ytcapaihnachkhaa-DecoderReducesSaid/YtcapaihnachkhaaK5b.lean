/-
  The functions' trees, printed by a program of ours.
-/
import Derived.Test.YtcapaihnachkhaaK5a
set_option linter.unusedVariables false
set_option maxRecDepth 100000
namespace Go.Proofs.Ytcapaihnachkhaa
open Go.Os
section
def S62 (x0 x1 x2 x3 x4 x5 x6 x7 x8 x9 xa xb xc xd xe xf xg xh xi xj xk xl xm xn xo xp xq xr xs xt xu xv : Int) : List T := (T.u :: T.u :: (T.bx [(T.r (R.i .i64 x0)), (T.r (R.i .i64 x1)), (T.r (R.i .i64 x2)), (T.r (R.i .i64 x3)), (T.r (R.i .i64 x4)), (T.r (R.i .i64 x5)), (T.r (R.i .i64 x6)), (T.r (R.i .i64 x7)), (T.r (R.i .i64 x8)), (T.r (R.i .i64 x9)), (T.r (R.i .i64 xa)), (T.r (R.i .i64 xb)), (T.r (R.i .i64 xc)), (T.r (R.i .i64 xd)), (T.r (R.i .i64 xe)), (T.r (R.i .i64 xf))]) :: (T.bx [(T.r (R.i .i64 xg)), (T.r (R.i .i64 xh)), (T.r (R.i .i64 xi)), (T.r (R.i .i64 xj)), (T.r (R.i .i64 xk)), (T.r (R.i .i64 xl)), (T.r (R.i .i64 xm)), (T.r (R.i .i64 xn)), (T.r (R.i .i64 xo)), (T.r (R.i .i64 xp)), (T.r (R.i .i64 xq)), (T.r (R.i .i64 xr)), (T.r (R.i .i64 xs)), (T.r (R.i .i64 xt)), (T.r (R.i .i64 xu)), (T.r (R.i .i64 xv))]) :: T.u :: T.u :: T.u :: T.u :: T.u :: T.u :: T.u :: T.u :: T.u :: T.u :: T.u :: T.u :: T.u :: T.u :: T.u :: T.u :: T.u :: T.u :: T.u :: T.u :: T.u :: T.u :: T.u :: T.u :: T.u :: T.u :: T.u :: T.u :: T.u :: T.u :: T.u :: T.u :: T.u :: T.u :: T.u :: T.u :: T.u :: T.u :: T.u :: T.u :: T.u :: [])

def P63 : List PT := [.us 1, (.bx [(.r (.i .i64)), (.r (.i .i64)), (.r (.i .i64)), (.r (.i .i64))]), (.bx [(.r (.i .i64)), (.r (.i .i64)), (.r (.i .i64)), (.r (.i .i64)), (.r (.i .i64)), (.r (.i .i64)), (.r (.i .i64)), (.r (.i .i64)), (.r (.i .i64)), (.r (.i .i64)), (.r (.i .i64)), (.r (.i .i64)), (.r (.i .i64)), (.r (.i .i64)), (.r (.i .i64)), (.r (.i .i64))]), (.bx [(.r (.i .i64)), (.r (.i .i64)), (.r (.i .i64)), (.r (.i .i64)), (.r (.i .i64)), (.r (.i .i64)), (.r (.i .i64)), (.r (.i .i64)), (.r (.i .i64)), (.r (.i .i64)), (.r (.i .i64)), (.r (.i .i64)), (.r (.i .i64)), (.r (.i .i64)), (.r (.i .i64)), (.r (.i .i64))]), .us 7, (.r (.i .i64)), .us 33]

noncomputable def M134_5 {β : Type} (l134_5_0 : (Q9 β) → Q10 β) (s : List T) : Option ((Ex → List T → Option β) → Option β) :=
  match gTs P63 (clean ((Hn 134).lp 5).1 s) [] with
  | some (.i x0 :: .i x1 :: .i x2 :: .i x3 :: .i x4 :: .i x5 :: .i x6 :: .i x7 :: .i x8 :: .i x9 :: .i xa :: .i xb :: .i xc :: .i xd :: .i xe :: .i xf :: .i xg :: .i xh :: .i xi :: .i xj :: .i xk :: .i xl :: .i xm :: .i xn :: .i xo :: .i xp :: .i xq :: .i xr :: .i xs :: .i xt :: .i xu :: .i xv :: .i xw :: .i xx :: .i xy :: .i xz :: .i x10 :: []) => some fun kk => l134_5_0 (fun x11 x12 x13 x14 x15 x16 x17 x18 x19 x1a x1b x1c x1d x1e x1f x1g x1h x1i x1j x1k x1l x1m x1n x1o x1p x1q x1r x1s x1t x1u x1v x1w => kk (Ex.ex 0) (S62 x11 x12 x13 x14 x15 x16 x17 x18 x19 x1a x1b x1c x1d x1e x1f x1g x1h x1i x1j x1k x1l x1m x1n x1o x1p x1q x1r x1s x1t x1u x1v x1w)) x0 x1 x2 x3 x4 x5 x6 x7 x8 x9 xa xb xc xd xe xf xg xh xi xj xk xl xm xn xo xp xq xr xs xt xu xv xw xx xy xz x10
  | _ => none

theorem e134_5_0 {β : Type} (A : Pr) (B : Pk) (l134_5_0 : (Q9 β) → Q10 β) (x0 x1 x2 x3 x4 x5 x6 x7 x8 x9 xa xb xc xd xe xf xg xh xi xj xk xl xm xn xo xp xq xr xs xt xu xv xw xx xy xz x10 : Int) (kk : Ex → List T → Option β) :
    uTs P63 (.i x0 :: .i x1 :: .i x2 :: .i x3 :: .i x4 :: .i x5 :: .i x6 :: .i x7 :: .i x8 :: .i x9 :: .i xa :: .i xb :: .i xc :: .i xd :: .i xe :: .i xf :: .i xg :: .i xh :: .i xi :: .i xj :: .i xk :: .i xl :: .i xm :: .i xn :: .i xo :: .i xp :: .i xq :: .i xr :: .i xs :: .i xt :: .i xu :: .i xv :: .i xw :: .i xx :: .i xy :: .i xz :: .i x10 :: []) (fun s _ => evK (mkK Try.prog A B [] [] (Hn 134).pt []) X134_5 s (fun e s' => match e with
      | .nm => (match M134_5 l134_5_0 s' with | some h => h kk | none => none)
      | .ex m => kk (.ex m) (clean ((Hn 134).lp (firstReg X134_5)).2 s')
      | .rt => kk .rt (clean ((Hn 134).lp (firstReg X134_5)).2 s'))) = GL134_5_0 A B l134_5_0 (fun x11 x12 x13 x14 x15 x16 x17 x18 x19 x1a x1b x1c x1d x1e x1f x1g x1h x1i x1j x1k x1l x1m x1n x1o x1p x1q x1r x1s x1t x1u x1v x1w => kk (Ex.ex 0) (S62 x11 x12 x13 x14 x15 x16 x17 x18 x19 x1a x1b x1c x1d x1e x1f x1g x1h x1i x1j x1k x1l x1m x1n x1o x1p x1q x1r x1s x1t x1u x1v x1w)) x0 x1 x2 x3 x4 x5 x6 x7 x8 x9 xa xb xc xd xe xf xg xh xi xj xk xl xm xn xo xp xq xr xs xt xu xv xw xx xy xz x10 := by kernel_rfl

theorem ol134_5 {β : Type} (N : Nat) : ∀ n, SndL (β := β) Try.prog Hn (Hn 134) X134_5 (M134_5 (L134_5_0 re rk N n))
  | 0 => by
    intro s h kk r ha hr
    unfold M134_5 at ha
    split at ha
    · cases ha; cases hr
    · cases ha
  | n + 1 => by
    have ih := ol134_5 (β := β) N n
    intro s h kk r ha hr
    unfold M134_5 at ha
    split at ha
    · rename_i hs
      cases ha
      have hk := via_pat hs ((e134_5_0 re rk (L134_5_0 re rk N n) _ _ _ _ _ _ _ _ _ _ _ _ _ _ _ _ _ _ _ _ _ _ _ _ _ _ _ _ _ _ _ _ _ _ _ _ _ kk).trans hr)
      exact round_ok (show SndAll Try.prog Hn [] from trivial) (spots := []) (by kernel_rfl) trivial ih (hd := clean ((Hn 134).lp 5).1 s) (by rw [i134_5]) hk
    · cases ha

def G134_0 {β : Type} (A : Pr) (B : Pk) (f61_0 : Int → Int → Int → Int → (Bool → Option β) → Option β) (l134_5_0 : (Q9 β) → Q10 β) (x0 x1 x2 x3 : Int) (k0 : Q11 β) : Option β :=
    f61_0 x0 x1 x2 x3 (fun x4 =>
    match (A.bn x4) with
      | true => (k0 0 0 0 0 0 0 0 0 0 0 0 0 0 0 0 0)
      | false => (l134_5_0 (fun x5 x6 x7 x8 x9 xa xb xc xd xe xf xg xh xi xj xk xl xm xn xo xp xq xr xs xt xu xv xw xx xy xz x10 =>
        k0 xl xm xn xo xp xq xr xs xt xu xv xw xx xy xz x10) x0 x1 x2 x3 0 0 0 0 0 0 0 0 0 0 0 0 0 0 0 0 0 0 0 0 0 0 0 0 0 0 0 0 0 0 0 0 0))

def F134_0 {β : Type} (A : Pr) (B : Pk) (N : Nat) (x0 x1 x2 x3 : Int) (k0 : Q11 β) : Option β :=
  G134_0 A B (F61_0 A B N) (L134_5_0 A B N N) x0 x1 x2 x3 k0

def M134_0 {β : Type} (f134_0 : Int → Int → Int → Int → (Q11 β) → Option β) (a : List T) : Option ((T → List (List T) → Option β) → Option β) :=
  match gTs P0 a [] with
  | some [.i x0, .i x1, .i x2, .i x3] => some fun kk => f134_0 x0 x1 x2 x3 (fun x4 x5 x6 x7 x8 x9 xa xb xc xd xe xf xg xh xi xj => kk (T.r (R.a [(R.i .i64 x4), (R.i .i64 x5), (R.i .i64 x6), (R.i .i64 x7), (R.i .i64 x8), (R.i .i64 x9), (R.i .i64 xa), (R.i .i64 xb), (R.i .i64 xc), (R.i .i64 xd), (R.i .i64 xe), (R.i .i64 xf), (R.i .i64 xg), (R.i .i64 xh), (R.i .i64 xi), (R.i .i64 xj)])) [])
  | _ => none

theorem e134_0 {β : Type} (A : Pr) (B : Pk) (f61_0 : Int → Int → Int → Int → (Bool → Option β) → Option β) (l134_5_0 : (Q9 β) → Q10 β) (x0 x1 x2 x3 : Int) (kk : T → List (List T) → Option β) :
    uTs P0 [.i x0, .i x1, .i x2, .i x3] (fun a _ => bodyK (mkK Try.prog A B [(61, M61_0 f61_0)] [(5, M134_5 l134_5_0)] (Hn 134).pt []) Try.f134 a kk) = G134_0 A B f61_0 l134_5_0 x0 x1 x2 x3 (fun x4 x5 x6 x7 x8 x9 xa xb xc xd xe xf xg xh xi xj => kk (T.r (R.a [(R.i .i64 x4), (R.i .i64 x5), (R.i .i64 x6), (R.i .i64 x7), (R.i .i64 x8), (R.i .i64 x9), (R.i .i64 xa), (R.i .i64 xb), (R.i .i64 xc), (R.i .i64 xd), (R.i .i64 xe), (R.i .i64 xf), (R.i .i64 xg), (R.i .i64 xh), (R.i .i64 xi), (R.i .i64 xj)])) []) := by kernel_rfl

theorem o134_0 {β : Type} (N : Nat) : Snd (β := β) Try.prog Hn 134 (M134_0 (F134_0 re rk N)) := by
  intro a h kk r ha hr
  unfold M134_0 at ha
  split at ha
  · rename_i hs
    cases ha
    have hk := via_pat hs ((e134_0 re rk (F61_0 re rk N) (L134_5_0 re rk N N) _ _ _ _ kk).trans hr)
    exact fn_ok (f := 134) (fn := Try.f134) (H := Hn) (by kernel_rfl) (show SndAll Try.prog Hn [(61, M61_0 (F61_0 re rk N))] from ⟨o61_0 N, trivial⟩) (spots := [.lp X134_5]) (by kernel_rfl) ⟨cut_lp (id := 5) i134_5 (ol134_5 N N) (fun s kk => by kernel_rfl), trivial⟩ hk
  · cases ha

def G120_0 {β : Type} (A : Pr) (B : Pk) (f133_0 : Int → Int → (Int → Int → Bool → Option β) → Option β) (f61_0 : Int → Int → Int → Int → (Bool → Option β) → Option β) (f118_0 : Int → Int → Int → Int → Int → Int → (Int → Int → Int → Int → Option β) → Option β) (f134_0 : Int → Int → Int → Int → (Q11 β) → Option β) (x0 x1 x2 x3 x4 x5 : Int) (k0 : Int → Int → Int → Int → Option β) : Option β :=
    f133_0 x5 x4 (fun x6 x7 x8 =>
    match (A.bn x8) with
      | true => (k0 0 0 0 0)
      | false => (f61_0 x0 x1 x2 x3 (fun x9 =>
        match (A.bn x9) with
          | true => (k0 0 0 0 0)
          | false => (match (A.cm .eql x5 0) with
            | true => (f118_0 x0 x1 x2 x3 x4 0 (fun xa xb xc xd =>
              k0 xa xb xc xd))
            | false => (f118_0 x0 x1 x2 x3 x4 (A.ar .add .i64 (A.ar .sub .i64 x4 x6) 1) (fun xe xf xg xh =>
              f134_0 xe xf xg xh (fun xi xj xk xl xm xn xo xp xq xr xs xt xu xv xw xx =>
                match (A.cm .eql x7 0) with
                  | true => (k0 xi xj xk xl)
                  | false => (match (A.cm .eql x7 1) with
                    | true => (k0 xm xn xo xp)
                    | false => (match (A.cm .eql x7 2) with
                      | true => (k0 xq xr xs xt)
                      | false => (match (A.cm .eql x7 3) with
                        | true => (k0 xu xv xw xx)
                        | false => none))))))))))

def F120_0 {β : Type} (A : Pr) (B : Pk) (N : Nat) (x0 x1 x2 x3 x4 x5 : Int) (k0 : Int → Int → Int → Int → Option β) : Option β :=
  G120_0 A B (F133_0 A B N) (F61_0 A B N) (F118_0 A B N) (F134_0 A B N) x0 x1 x2 x3 x4 x5 k0

def M120_0 {β : Type} (f120_0 : Int → Int → Int → Int → Int → Int → (Int → Int → Int → Int → Option β) → Option β) (a : List T) : Option ((T → List (List T) → Option β) → Option β) :=
  match gTs P3 a [] with
  | some [.i x0, .i x1, .i x2, .i x3, .i x4, .i x5] => some fun kk => f120_0 x0 x1 x2 x3 x4 x5 (fun x6 x7 x8 x9 => kk (T.r (R.a [(R.i .i64 x6), (R.i .i64 x7), (R.i .i64 x8), (R.i .i64 x9)])) [])
  | _ => none

theorem e120_0 {β : Type} (A : Pr) (B : Pk) (f133_0 : Int → Int → (Int → Int → Bool → Option β) → Option β) (f61_0 : Int → Int → Int → Int → (Bool → Option β) → Option β) (f118_0 : Int → Int → Int → Int → Int → Int → (Int → Int → Int → Int → Option β) → Option β) (f134_0 : Int → Int → Int → Int → (Q11 β) → Option β) (x0 x1 x2 x3 x4 x5 : Int) (kk : T → List (List T) → Option β) :
    uTs P3 [.i x0, .i x1, .i x2, .i x3, .i x4, .i x5] (fun a _ => bodyK (mkK Try.prog A B [(133, M133_0 f133_0), (61, M61_0 f61_0), (118, M118_0 f118_0), (134, M134_0 f134_0)] [] (Hn 120).pt []) Try.f120 a kk) = G120_0 A B f133_0 f61_0 f118_0 f134_0 x0 x1 x2 x3 x4 x5 (fun x6 x7 x8 x9 => kk (T.r (R.a [(R.i .i64 x6), (R.i .i64 x7), (R.i .i64 x8), (R.i .i64 x9)])) []) := by kernel_rfl

theorem o120_0 {β : Type} (N : Nat) : Snd (β := β) Try.prog Hn 120 (M120_0 (F120_0 re rk N)) := by
  intro a h kk r ha hr
  unfold M120_0 at ha
  split at ha
  · rename_i hs
    cases ha
    have hk := via_pat hs ((e120_0 re rk (F133_0 re rk N) (F61_0 re rk N) (F118_0 re rk N) (F134_0 re rk N) _ _ _ _ _ _ kk).trans hr)
    exact fn_ok (f := 120) (fn := Try.f120) (H := Hn) (by kernel_rfl) (show SndAll Try.prog Hn [(133, M133_0 (F133_0 re rk N)), (61, M61_0 (F61_0 re rk N)), (118, M118_0 (F118_0 re rk N)), (134, M134_0 (F134_0 re rk N))] from ⟨o133_0 N, o61_0 N, o118_0 N, o134_0 N, trivial⟩) (spots := []) (by kernel_rfl) trivial hk
  · cases ha

noncomputable def X96_14 : Code := atF Try.f96 [true, true, false, true, false, false, true, true, false, false, true, true, true, false, false, true, false, false, true, true, true, true, false, false]
theorem i96_14 : firstReg X96_14 = 14 := by kernel_rfl

def GL96_14_0 {β : Type} (A : Pr) (B : Pk) (f120_0 : Int → Int → Int → Int → Int → Int → (Int → Int → Int → Int → Option β) → Option β) (f117_0 : Int → Int → Int → Int → Int → Int → (Int → Option β) → Option β) (l96_14_0 : (Q17 β) → (Q18 β) → Q19 β) (k0 : Q17 β) (k1 : Q18 β) (x0 x1 x2 x3 x4 x5 x6 : Int) (x7 x8 x9 xa xb xc xd xe : Bool) (xf : List R) (xg xh xi xj xk xl xm xn xo xp xq xr xs xt : Int) (xu : List R) (xv xw : Int) (xx : List R) (xy xz : Int) : Option β :=
    match (A.cm .lss xz xy) with
    | true => (match (A.ix xz (A.len xx)) with
      | some x10 => (match (B.okC [(Sh.i .i64)] xx x10 0) with
        | true => (f120_0 xn xo xp xq x1 (B.ci xx x10 0) (fun x11 x12 x13 x14 =>
          f117_0 x11 x12 x13 x14 (A.mn x3 xs) (A.mn x4 xt) (fun x15 =>
            match (A.cm .gtr x15 65536) with
              | true => (k0 x0 x1 x2 x3 x4 x5 x6 x7 x8 x9 xa xb xc xd xe xf xg xh xi xj xk xl false xm xn xo xp xq xr xu xv xw)
              | false => (l96_14_0 k0 k1 x0 x1 x2 x3 x4 x5 x6 x7 x8 x9 xa xb xc xd xe xf xg xh xi xj xk xl xm xn xo xp xq xr xs xt xu xv xw xx xy (A.ar .add .i64 xz 1)))))
        | false => none)
      | none => none)
    | false => (k1 x0 x1 x2 x3 x4 x5 x6 x7 x8 x9 xa xb xc xd xe xf xg xh xi xj xk xl xm xn xo xp xq xr xu xv xw)

def L96_14_0 {β : Type} (A : Pr) (B : Pk) (N : Nat) : Nat → (Q17 β) → (Q18 β) → Q19 β
  | 0, _, _, _, _, _, _, _, _, _, _, _, _, _, _, _, _, _, _, _, _, _, _, _, _, _, _, _, _, _, _, _, _, _, _, _, _, _, _ => none
  | n + 1, k0, k1, x0, x1, x2, x3, x4, x5, x6, x7, x8, x9, xa, xb, xc, xd, xe, xf, xg, xh, xi, xj, xk, xl, xm, xn, xo, xp, xq, xr, xs, xt, xu, xv, xw, xx, xy, xz =>
    GL96_14_0 A B (F120_0 A B N) (F117_0 A B N) (L96_14_0 A B N n) k0 k1 x0 x1 x2 x3 x4 x5 x6 x7 x8 x9 xa xb xc xd xe xf xg xh xi xj xk xl xm xn xo xp xq xr xs xt xu xv xw xx xy xz

def P64 : List PT := [.us 4, (.bx [(.r (.i .i64)), (.r (.i .i64)), (.r (.i .i64)), (.r (.i .i64)), (.r (.i .i64)), (.r .sn), (.r (.i .i64)), (.r (.i .i64)), (.r .b), (.r .b), (.r .b), (.r .b), (.r .b), (.r .b), (.r .b), (.r .b), (.r (.ro 1)), (.r (.i .i64)), (.r (.i .i64))]), (.bx [(.r (.i .i64)), (.r (.i .i64)), (.r (.i .i64)), (.r (.i .i64))]), (.r .b), (.r (.i .i64)), .us 2, (.bx [(.r (.i .i64)), (.r (.i .i64)), (.r (.i .i64)), (.r (.i .i64))]), (.r (.i .i64)), .us 4, (.r (.ro 4)), (.r (.i .i64)), (.r (.i .i64)), .us 73]

def S64 (x0 x1 x2 x3 x4 x5 x6 : Int) (x7 x8 x9 xa xb xc xd xe : Bool) (xf : List R) (xg xh xi xj xk xl : Int) (xm : Bool) (xn xo xp xq xr xs : Int) (xt : List R) (xu xv : Int) : List T := (T.u :: T.u :: T.u :: T.u :: (T.bx [(T.r (R.i .i64 x0)), (T.r (R.i .i64 x1)), (T.r (R.i .i64 x2)), (T.r (R.i .i64 x3)), (T.r (R.i .i64 x4)), (T.r R.sn), (T.r (R.i .i64 x5)), (T.r (R.i .i64 x6)), (T.r (R.b x7)), (T.r (R.b x8)), (T.r (R.b x9)), (T.r (R.b xa)), (T.r (R.b xb)), (T.r (R.b xc)), (T.r (R.b xd)), (T.r (R.b xe)), (T.r (R.ro 1 xf)), (T.r (R.i .i64 xg)), (T.r (R.i .i64 xh))]) :: (T.bx [(T.r (R.i .i64 xi)), (T.r (R.i .i64 xj)), (T.r (R.i .i64 xk)), (T.r (R.i .i64 xl))]) :: (T.r (R.b xm)) :: (T.r (R.i .i64 xn)) :: T.u :: T.u :: (T.bx [(T.r (R.i .i64 xo)), (T.r (R.i .i64 xp)), (T.r (R.i .i64 xq)), (T.r (R.i .i64 xr))]) :: (T.r (R.i .i64 xs)) :: T.u :: T.u :: T.u :: T.u :: (T.r (R.ro 4 xt)) :: (T.r (R.i .i64 xu)) :: (T.r (R.i .i64 xv)) :: T.u :: T.u :: T.u :: T.u :: T.u :: T.u :: T.u :: T.u :: T.u :: T.u :: T.u :: T.u :: T.u :: T.u :: T.u :: T.u :: T.u :: T.u :: T.u :: T.u :: T.u :: T.u :: T.u :: T.u :: T.u :: T.u :: T.u :: T.u :: T.u :: T.u :: T.u :: T.u :: T.u :: T.u :: T.u :: T.u :: T.u :: T.u :: T.u :: T.u :: T.u :: T.u :: T.u :: T.u :: T.u :: T.u :: T.u :: T.u :: T.u :: T.u :: T.u :: T.u :: T.u :: T.u :: T.u :: T.u :: T.u :: T.u :: T.u :: T.u :: T.u :: T.u :: T.u :: T.u :: T.u :: T.u :: T.u :: T.u :: T.u :: T.u :: T.u :: T.u :: T.u :: [])

def P65 : List PT := [.us 4, (.bx [(.r (.i .i64)), (.r (.i .i64)), (.r (.i .i64)), (.r (.i .i64)), (.r (.i .i64)), (.r .sn), (.r (.i .i64)), (.r (.i .i64)), (.r .b), (.r .b), (.r .b), (.r .b), (.r .b), (.r .b), (.r .b), (.r .b), (.r (.ro 1)), (.r (.i .i64)), (.r (.i .i64))]), (.bx [(.r (.i .i64)), (.r (.i .i64)), (.r (.i .i64)), (.r (.i .i64))]), .us 1, (.r (.i .i64)), .us 2, (.bx [(.r (.i .i64)), (.r (.i .i64)), (.r (.i .i64)), (.r (.i .i64))]), (.r (.i .i64)), .us 4, (.r (.ro 4)), (.r (.i .i64)), (.r (.i .i64)), .us 73]

def S65 (x0 x1 x2 x3 x4 x5 x6 : Int) (x7 x8 x9 xa xb xc xd xe : Bool) (xf : List R) (xg xh xi xj xk xl xm xn xo xp xq xr : Int) (xs : List R) (xt xu : Int) : List T := (T.u :: T.u :: T.u :: T.u :: (T.bx [(T.r (R.i .i64 x0)), (T.r (R.i .i64 x1)), (T.r (R.i .i64 x2)), (T.r (R.i .i64 x3)), (T.r (R.i .i64 x4)), (T.r R.sn), (T.r (R.i .i64 x5)), (T.r (R.i .i64 x6)), (T.r (R.b x7)), (T.r (R.b x8)), (T.r (R.b x9)), (T.r (R.b xa)), (T.r (R.b xb)), (T.r (R.b xc)), (T.r (R.b xd)), (T.r (R.b xe)), (T.r (R.ro 1 xf)), (T.r (R.i .i64 xg)), (T.r (R.i .i64 xh))]) :: (T.bx [(T.r (R.i .i64 xi)), (T.r (R.i .i64 xj)), (T.r (R.i .i64 xk)), (T.r (R.i .i64 xl))]) :: T.u :: (T.r (R.i .i64 xm)) :: T.u :: T.u :: (T.bx [(T.r (R.i .i64 xn)), (T.r (R.i .i64 xo)), (T.r (R.i .i64 xp)), (T.r (R.i .i64 xq))]) :: (T.r (R.i .i64 xr)) :: T.u :: T.u :: T.u :: T.u :: (T.r (R.ro 4 xs)) :: (T.r (R.i .i64 xt)) :: (T.r (R.i .i64 xu)) :: T.u :: T.u :: T.u :: T.u :: T.u :: T.u :: T.u :: T.u :: T.u :: T.u :: T.u :: T.u :: T.u :: T.u :: T.u :: T.u :: T.u :: T.u :: T.u :: T.u :: T.u :: T.u :: T.u :: T.u :: T.u :: T.u :: T.u :: T.u :: T.u :: T.u :: T.u :: T.u :: T.u :: T.u :: T.u :: T.u :: T.u :: T.u :: T.u :: T.u :: T.u :: T.u :: T.u :: T.u :: T.u :: T.u :: T.u :: T.u :: T.u :: T.u :: T.u :: T.u :: T.u :: T.u :: T.u :: T.u :: T.u :: T.u :: T.u :: T.u :: T.u :: T.u :: T.u :: T.u :: T.u :: T.u :: T.u :: T.u :: T.u :: T.u :: T.u :: T.u :: T.u :: [])

def P66 : List PT := [.us 4, (.bx [(.r (.i .i64)), (.r (.i .i64)), (.r (.i .i64)), (.r (.i .i64)), (.r (.i .i64)), (.r .sn), (.r (.i .i64)), (.r (.i .i64)), (.r .b), (.r .b), (.r .b), (.r .b), (.r .b), (.r .b), (.r .b), (.r .b), (.r (.ro 1)), (.r (.i .i64)), (.r (.i .i64))]), (.bx [(.r (.i .i64)), (.r (.i .i64)), (.r (.i .i64)), (.r (.i .i64))]), .us 1, (.r (.i .i64)), .us 2, (.bx [(.r (.i .i64)), (.r (.i .i64)), (.r (.i .i64)), (.r (.i .i64))]), (.r (.i .i64)), (.bx [(.r (.i .i64)), (.r (.i .i64))]), .us 3, (.r (.ro 4)), (.r (.i .i64)), (.r (.i .i64)), .us 46, (.own true 1), (.r (.i .i64)), (.r (.i .i64)), .us 24]

noncomputable def M96_14 {β : Type} (l96_14_0 : (Q17 β) → (Q18 β) → Q19 β) (s : List T) : Option ((Ex → List T → Option β) → Option β) :=
  match gTs P66 (clean ((Hn 96).lp 14).1 s) [] with
  | some (.i x0 :: .i x1 :: .i x2 :: .i x3 :: .i x4 :: .i x5 :: .i x6 :: .b x7 :: .b x8 :: .b x9 :: .b xa :: .b xb :: .b xc :: .b xd :: .b xe :: .l xf :: .i xg :: .i xh :: .i xi :: .i xj :: .i xk :: .i xl :: .i xm :: .i xn :: .i xo :: .i xp :: .i xq :: .i xr :: .i xs :: .i xt :: .l xu :: .i xv :: .i xw :: .l xx :: .i xy :: .i xz :: []) => some fun kk => l96_14_0 (fun x10 x11 x12 x13 x14 x15 x16 x17 x18 x19 x1a x1b x1c x1d x1e x1f x1g x1h x1i x1j x1k x1l x1m x1n x1o x1p x1q x1r x1s x1t x1u x1v => kk Ex.rt (S64 x10 x11 x12 x13 x14 x15 x16 x17 x18 x19 x1a x1b x1c x1d x1e x1f x1g x1h x1i x1j x1k x1l x1m x1n x1o x1p x1q x1r x1s x1t x1u x1v)) (fun x1w x1x x1y x1z x20 x21 x22 x23 x24 x25 x26 x27 x28 x29 x2a x2b x2c x2d x2e x2f x2g x2h x2i x2j x2k x2l x2m x2n x2o x2p x2q => kk (Ex.ex 4) (S65 x1w x1x x1y x1z x20 x21 x22 x23 x24 x25 x26 x27 x28 x29 x2a x2b x2c x2d x2e x2f x2g x2h x2i x2j x2k x2l x2m x2n x2o x2p x2q)) x0 x1 x2 x3 x4 x5 x6 x7 x8 x9 xa xb xc xd xe xf xg xh xi xj xk xl xm xn xo xp xq xr xs xt xu xv xw xx xy xz
  | _ => none

theorem e96_14_0 {β : Type} (A : Pr) (B : Pk) (f120_0 : Int → Int → Int → Int → Int → Int → (Int → Int → Int → Int → Option β) → Option β) (f117_0 : Int → Int → Int → Int → Int → Int → (Int → Option β) → Option β) (l96_14_0 : (Q17 β) → (Q18 β) → Q19 β) (x0 x1 x2 x3 x4 x5 x6 : Int) (x7 x8 x9 xa xb xc xd xe : Bool) (xf : List R) (xg xh xi xj xk xl xm xn xo xp xq xr xs xt : Int) (xu : List R) (xv xw : Int) (xx : List R) (xy xz : Int) (kk : Ex → List T → Option β) :
    uTs P66 (.i x0 :: .i x1 :: .i x2 :: .i x3 :: .i x4 :: .i x5 :: .i x6 :: .b x7 :: .b x8 :: .b x9 :: .b xa :: .b xb :: .b xc :: .b xd :: .b xe :: .l xf :: .i xg :: .i xh :: .i xi :: .i xj :: .i xk :: .i xl :: .i xm :: .i xn :: .i xo :: .i xp :: .i xq :: .i xr :: .i xs :: .i xt :: .l xu :: .i xv :: .i xw :: .l xx :: .i xy :: .i xz :: []) (fun s _ => evK (mkK Try.prog A B [(120, M120_0 f120_0), (117, M117_0 f117_0)] [] (Hn 96).pt []) X96_14 s (fun e s' => match e with
      | .nm => (match M96_14 l96_14_0 s' with | some h => h kk | none => none)
      | .ex m => kk (.ex m) (clean ((Hn 96).lp (firstReg X96_14)).2 s')
      | .rt => kk .rt (clean ((Hn 96).lp (firstReg X96_14)).2 s'))) = GL96_14_0 A B f120_0 f117_0 l96_14_0 (fun x10 x11 x12 x13 x14 x15 x16 x17 x18 x19 x1a x1b x1c x1d x1e x1f x1g x1h x1i x1j x1k x1l x1m x1n x1o x1p x1q x1r x1s x1t x1u x1v => kk Ex.rt (S64 x10 x11 x12 x13 x14 x15 x16 x17 x18 x19 x1a x1b x1c x1d x1e x1f x1g x1h x1i x1j x1k x1l x1m x1n x1o x1p x1q x1r x1s x1t x1u x1v)) (fun x1w x1x x1y x1z x20 x21 x22 x23 x24 x25 x26 x27 x28 x29 x2a x2b x2c x2d x2e x2f x2g x2h x2i x2j x2k x2l x2m x2n x2o x2p x2q => kk (Ex.ex 4) (S65 x1w x1x x1y x1z x20 x21 x22 x23 x24 x25 x26 x27 x28 x29 x2a x2b x2c x2d x2e x2f x2g x2h x2i x2j x2k x2l x2m x2n x2o x2p x2q)) x0 x1 x2 x3 x4 x5 x6 x7 x8 x9 xa xb xc xd xe xf xg xh xi xj xk xl xm xn xo xp xq xr xs xt xu xv xw xx xy xz := by kernel_rfl

theorem ol96_14 {β : Type} (N : Nat) : ∀ n, SndL (β := β) Try.prog Hn (Hn 96) X96_14 (M96_14 (L96_14_0 re rk N n))
  | 0 => by
    intro s h kk r ha hr
    unfold M96_14 at ha
    split at ha
    · cases ha; cases hr
    · cases ha
  | n + 1 => by
    have ih := ol96_14 (β := β) N n
    intro s h kk r ha hr
    unfold M96_14 at ha
    split at ha
    · rename_i hs
      cases ha
      have hk := via_pat hs ((e96_14_0 re rk (F120_0 re rk N) (F117_0 re rk N) (L96_14_0 re rk N n) _ _ _ _ _ _ _ _ _ _ _ _ _ _ _ _ _ _ _ _ _ _ _ _ _ _ _ _ _ _ _ _ _ _ _ _ kk).trans hr)
      exact round_ok (show SndAll Try.prog Hn [(120, M120_0 (F120_0 re rk N)), (117, M117_0 (F117_0 re rk N))] from ⟨o120_0 N, o117_0 N, trivial⟩) (spots := []) (by kernel_rfl) trivial ih (hd := clean ((Hn 96).lp 14).1 s) (by rw [i96_14]) hk
    · cases ha

noncomputable def X96_7 : Code := atF Try.f96 [true, true, false, true, false, false, true, true, false, false, true, true, true, false, false]
theorem i96_7 : firstReg X96_7 = 7 := by kernel_rfl

def GL96_7_0 {β : Type} (A : Pr) (B : Pk) (f116_0 : Int → Int → Int → Int → Int → Int → Int → Bool → Bool → Bool → Bool → Bool → Bool → Bool → Bool → List R → Int → Int → Int → (Int → Int → Option β) → Option β) (f118_0 : Int → Int → Int → Int → Int → Int → (Int → Int → Int → Int → Option β) → Option β) (f117_0 : Int → Int → Int → Int → Int → Int → (Int → Option β) → Option β) (f119_0 : Int → Int → (List R → Option β) → Option β) (l96_14_0 : (Q17 β) → (Q18 β) → Q19 β) (l96_7_0 : (Q20 β) → (Q21 β) → Q18 β) (k0 : Q20 β) (k1 : Q21 β) (x0 x1 x2 x3 x4 x5 x6 : Int) (x7 x8 x9 xa xb xc xd xe : Bool) (xf : List R) (xg xh xi xj xk xl xm xn xo xp xq xr : Int) (xs : List R) (xt xu : Int) : Option β :=
    match (A.cm .leq xr x1) with
    | true => (f116_0 x0 x1 x2 x3 x4 x5 x6 x7 x8 x9 xa xb xc xd xe xf xg xh xr (fun xv xw =>
      f118_0 xn xo xp xq x1 xr (fun xx xy xz x10 =>
        f117_0 xx xy xz x10 xv xw (fun x11 =>
          match (A.cm .gtr xr 0) with
            | true => (f119_0 x1 xr (fun x12 =>
              l96_14_0 (fun x13 x14 x15 x16 x17 x18 x19 x1a x1b x1c x1d x1e x1f x1g x1h x1i x1j x1k x1l x1m x1n x1o x1p x1q x1r x1s x1t x1u x1v x1w x1x x1y =>
                k0 x13 x14 x15 x16 x17 x18 x19 x1a x1b x1c x1d x1e x1f x1g x1h x1i x1j x1k x1l x1m x1n x1o x1p x1q x1w x1x x1y) (fun x1z x20 x21 x22 x23 x24 x25 x26 x27 x28 x29 x2a x2b x2c x2d x2e x2f x2g x2h x2i x2j x2k x2l x2m x2n x2o x2p x2q x2r x2s x2t =>
                l96_7_0 k0 k1 x1z x20 x21 x22 x23 x24 x25 x26 x27 x28 x29 x2a x2b x2c x2d x2e x2f x2g x2h x2i x2j x2k x2l x2m x2n x2o x2p (A.ar .add .i64 x2q 1) x2r x2s x2t) x0 x1 x2 x3 x4 x5 x6 x7 x8 x9 xa xb xc xd xe xf xg xh xi xj xk xl (A.ar .add .i64 xm (A.ar .mul .i64 x11 x6)) xn xo xp xq xr (A.ar .sub .i64 xv 1) (A.ar .sub .i64 xw 1) xs xt xu x12 (A.on (A.len x12)) 0))
            | false => (f119_0 x1 xr (fun x2u =>
              l96_14_0 (fun x2v x2w x2x x2y x2z x30 x31 x32 x33 x34 x35 x36 x37 x38 x39 x3a x3b x3c x3d x3e x3f x3g x3h x3i x3j x3k x3l x3m x3n x3o x3p x3q =>
                k0 x2v x2w x2x x2y x2z x30 x31 x32 x33 x34 x35 x36 x37 x38 x39 x3a x3b x3c x3d x3e x3f x3g x3h x3i x3o x3p x3q) (fun x3r x3s x3t x3u x3v x3w x3x x3y x3z x40 x41 x42 x43 x44 x45 x46 x47 x48 x49 x4a x4b x4c x4d x4e x4f x4g x4h x4i x4j x4k x4l =>
                l96_7_0 k0 k1 x3r x3s x3t x3u x3v x3w x3x x3y x3z x40 x41 x42 x43 x44 x45 x46 x47 x48 x49 x4a x4b x4c x4d x4e x4f x4g x4h (A.ar .add .i64 x4i 1) x4j x4k x4l) x0 x1 x2 x3 x4 x5 x6 x7 x8 x9 xa xb xc xd xe xf xg xh xi xj xk xl (A.ar .add .i64 xm (A.ar .mul .i64 x11 x6)) xn xo xp xq xr xv xw xs xt xu x2u (A.on (A.len x2u)) 0))))))
    | false => (k1 x0 x1 x2 x3 x4 x5 x6 x7 x8 x9 xa xb xc xd xe xf xg xh xi xj xk xl xm xs xt xu)

def L96_7_0 {β : Type} (A : Pr) (B : Pk) (N : Nat) : Nat → (Q20 β) → (Q21 β) → Q18 β
  | 0, _, _, _, _, _, _, _, _, _, _, _, _, _, _, _, _, _, _, _, _, _, _, _, _, _, _, _, _, _, _, _, _, _ => none
  | n + 1, k0, k1, x0, x1, x2, x3, x4, x5, x6, x7, x8, x9, xa, xb, xc, xd, xe, xf, xg, xh, xi, xj, xk, xl, xm, xn, xo, xp, xq, xr, xs, xt, xu =>
    GL96_7_0 A B (F116_0 A B N) (F118_0 A B N) (F117_0 A B N) (F119_0 A B N) (L96_14_0 A B N N) (L96_7_0 A B N n) k0 k1 x0 x1 x2 x3 x4 x5 x6 x7 x8 x9 xa xb xc xd xe xf xg xh xi xj xk xl xm xn xo xp xq xr xs xt xu

def P67 : List PT := [.us 4, (.bx [(.r (.i .i64)), (.r (.i .i64)), (.r (.i .i64)), (.r (.i .i64)), (.r (.i .i64)), (.r .sn), (.r (.i .i64)), (.r (.i .i64)), (.r .b), (.r .b), (.r .b), (.r .b), (.r .b), (.r .b), (.r .b), (.r .b), (.r (.ro 1)), (.r (.i .i64)), (.r (.i .i64))]), (.bx [(.r (.i .i64)), (.r (.i .i64)), (.r (.i .i64)), (.r (.i .i64))]), (.r .b), (.r (.i .i64)), .us 8, (.r (.ro 4)), (.r (.i .i64)), (.r (.i .i64)), .us 73]

def S67 (x0 x1 x2 x3 x4 x5 x6 : Int) (x7 x8 x9 xa xb xc xd xe : Bool) (xf : List R) (xg xh xi xj xk xl : Int) (xm : Bool) (xn : Int) (xo : List R) (xp xq : Int) : List T := (T.u :: T.u :: T.u :: T.u :: (T.bx [(T.r (R.i .i64 x0)), (T.r (R.i .i64 x1)), (T.r (R.i .i64 x2)), (T.r (R.i .i64 x3)), (T.r (R.i .i64 x4)), (T.r R.sn), (T.r (R.i .i64 x5)), (T.r (R.i .i64 x6)), (T.r (R.b x7)), (T.r (R.b x8)), (T.r (R.b x9)), (T.r (R.b xa)), (T.r (R.b xb)), (T.r (R.b xc)), (T.r (R.b xd)), (T.r (R.b xe)), (T.r (R.ro 1 xf)), (T.r (R.i .i64 xg)), (T.r (R.i .i64 xh))]) :: (T.bx [(T.r (R.i .i64 xi)), (T.r (R.i .i64 xj)), (T.r (R.i .i64 xk)), (T.r (R.i .i64 xl))]) :: (T.r (R.b xm)) :: (T.r (R.i .i64 xn)) :: T.u :: T.u :: T.u :: T.u :: T.u :: T.u :: T.u :: T.u :: (T.r (R.ro 4 xo)) :: (T.r (R.i .i64 xp)) :: (T.r (R.i .i64 xq)) :: T.u :: T.u :: T.u :: T.u :: T.u :: T.u :: T.u :: T.u :: T.u :: T.u :: T.u :: T.u :: T.u :: T.u :: T.u :: T.u :: T.u :: T.u :: T.u :: T.u :: T.u :: T.u :: T.u :: T.u :: T.u :: T.u :: T.u :: T.u :: T.u :: T.u :: T.u :: T.u :: T.u :: T.u :: T.u :: T.u :: T.u :: T.u :: T.u :: T.u :: T.u :: T.u :: T.u :: T.u :: T.u :: T.u :: T.u :: T.u :: T.u :: T.u :: T.u :: T.u :: T.u :: T.u :: T.u :: T.u :: T.u :: T.u :: T.u :: T.u :: T.u :: T.u :: T.u :: T.u :: T.u :: T.u :: T.u :: T.u :: T.u :: T.u :: T.u :: T.u :: T.u :: [])

def P68 : List PT := [.us 4, (.bx [(.r (.i .i64)), (.r (.i .i64)), (.r (.i .i64)), (.r (.i .i64)), (.r (.i .i64)), (.r .sn), (.r (.i .i64)), (.r (.i .i64)), (.r .b), (.r .b), (.r .b), (.r .b), (.r .b), (.r .b), (.r .b), (.r .b), (.r (.ro 1)), (.r (.i .i64)), (.r (.i .i64))]), (.bx [(.r (.i .i64)), (.r (.i .i64)), (.r (.i .i64)), (.r (.i .i64))]), .us 1, (.r (.i .i64)), .us 8, (.r (.ro 4)), (.r (.i .i64)), (.r (.i .i64)), .us 73]

def S68 (x0 x1 x2 x3 x4 x5 x6 : Int) (x7 x8 x9 xa xb xc xd xe : Bool) (xf : List R) (xg xh xi xj xk xl xm : Int) (xn : List R) (xo xp : Int) : List T := (T.u :: T.u :: T.u :: T.u :: (T.bx [(T.r (R.i .i64 x0)), (T.r (R.i .i64 x1)), (T.r (R.i .i64 x2)), (T.r (R.i .i64 x3)), (T.r (R.i .i64 x4)), (T.r R.sn), (T.r (R.i .i64 x5)), (T.r (R.i .i64 x6)), (T.r (R.b x7)), (T.r (R.b x8)), (T.r (R.b x9)), (T.r (R.b xa)), (T.r (R.b xb)), (T.r (R.b xc)), (T.r (R.b xd)), (T.r (R.b xe)), (T.r (R.ro 1 xf)), (T.r (R.i .i64 xg)), (T.r (R.i .i64 xh))]) :: (T.bx [(T.r (R.i .i64 xi)), (T.r (R.i .i64 xj)), (T.r (R.i .i64 xk)), (T.r (R.i .i64 xl))]) :: T.u :: (T.r (R.i .i64 xm)) :: T.u :: T.u :: T.u :: T.u :: T.u :: T.u :: T.u :: T.u :: (T.r (R.ro 4 xn)) :: (T.r (R.i .i64 xo)) :: (T.r (R.i .i64 xp)) :: T.u :: T.u :: T.u :: T.u :: T.u :: T.u :: T.u :: T.u :: T.u :: T.u :: T.u :: T.u :: T.u :: T.u :: T.u :: T.u :: T.u :: T.u :: T.u :: T.u :: T.u :: T.u :: T.u :: T.u :: T.u :: T.u :: T.u :: T.u :: T.u :: T.u :: T.u :: T.u :: T.u :: T.u :: T.u :: T.u :: T.u :: T.u :: T.u :: T.u :: T.u :: T.u :: T.u :: T.u :: T.u :: T.u :: T.u :: T.u :: T.u :: T.u :: T.u :: T.u :: T.u :: T.u :: T.u :: T.u :: T.u :: T.u :: T.u :: T.u :: T.u :: T.u :: T.u :: T.u :: T.u :: T.u :: T.u :: T.u :: T.u :: T.u :: T.u :: T.u :: T.u :: [])

noncomputable def M96_7 {β : Type} (l96_7_0 : (Q20 β) → (Q21 β) → Q18 β) (s : List T) : Option ((Ex → List T → Option β) → Option β) :=
  match gTs P65 (clean ((Hn 96).lp 7).1 s) [] with
  | some (.i x0 :: .i x1 :: .i x2 :: .i x3 :: .i x4 :: .i x5 :: .i x6 :: .b x7 :: .b x8 :: .b x9 :: .b xa :: .b xb :: .b xc :: .b xd :: .b xe :: .l xf :: .i xg :: .i xh :: .i xi :: .i xj :: .i xk :: .i xl :: .i xm :: .i xn :: .i xo :: .i xp :: .i xq :: .i xr :: .l xs :: .i xt :: .i xu :: []) => some fun kk => l96_7_0 (fun xv xw xx xy xz x10 x11 x12 x13 x14 x15 x16 x17 x18 x19 x1a x1b x1c x1d x1e x1f x1g x1h x1i x1j x1k x1l => kk Ex.rt (S67 xv xw xx xy xz x10 x11 x12 x13 x14 x15 x16 x17 x18 x19 x1a x1b x1c x1d x1e x1f x1g x1h x1i x1j x1k x1l)) (fun x1m x1n x1o x1p x1q x1r x1s x1t x1u x1v x1w x1x x1y x1z x20 x21 x22 x23 x24 x25 x26 x27 x28 x29 x2a x2b => kk (Ex.ex 2) (S68 x1m x1n x1o x1p x1q x1r x1s x1t x1u x1v x1w x1x x1y x1z x20 x21 x22 x23 x24 x25 x26 x27 x28 x29 x2a x2b)) x0 x1 x2 x3 x4 x5 x6 x7 x8 x9 xa xb xc xd xe xf xg xh xi xj xk xl xm xn xo xp xq xr xs xt xu
  | _ => none

theorem e96_7_0 {β : Type} (A : Pr) (B : Pk) (f116_0 : Int → Int → Int → Int → Int → Int → Int → Bool → Bool → Bool → Bool → Bool → Bool → Bool → Bool → List R → Int → Int → Int → (Int → Int → Option β) → Option β) (f118_0 : Int → Int → Int → Int → Int → Int → (Int → Int → Int → Int → Option β) → Option β) (f117_0 : Int → Int → Int → Int → Int → Int → (Int → Option β) → Option β) (f119_0 : Int → Int → (List R → Option β) → Option β) (l96_14_0 : (Q17 β) → (Q18 β) → Q19 β) (l96_7_0 : (Q20 β) → (Q21 β) → Q18 β) (x0 x1 x2 x3 x4 x5 x6 : Int) (x7 x8 x9 xa xb xc xd xe : Bool) (xf : List R) (xg xh xi xj xk xl xm xn xo xp xq xr : Int) (xs : List R) (xt xu : Int) (kk : Ex → List T → Option β) :
    uTs P65 (.i x0 :: .i x1 :: .i x2 :: .i x3 :: .i x4 :: .i x5 :: .i x6 :: .b x7 :: .b x8 :: .b x9 :: .b xa :: .b xb :: .b xc :: .b xd :: .b xe :: .l xf :: .i xg :: .i xh :: .i xi :: .i xj :: .i xk :: .i xl :: .i xm :: .i xn :: .i xo :: .i xp :: .i xq :: .i xr :: .l xs :: .i xt :: .i xu :: []) (fun s _ => evK (mkK Try.prog A B [(116, M116_0 f116_0), (118, M118_0 f118_0), (117, M117_0 f117_0), (119, M119_0 f119_0)] [(14, M96_14 l96_14_0)] (Hn 96).pt []) X96_7 s (fun e s' => match e with
      | .nm => (match M96_7 l96_7_0 s' with | some h => h kk | none => none)
      | .ex m => kk (.ex m) (clean ((Hn 96).lp (firstReg X96_7)).2 s')
      | .rt => kk .rt (clean ((Hn 96).lp (firstReg X96_7)).2 s'))) = GL96_7_0 A B f116_0 f118_0 f117_0 f119_0 l96_14_0 l96_7_0 (fun xv xw xx xy xz x10 x11 x12 x13 x14 x15 x16 x17 x18 x19 x1a x1b x1c x1d x1e x1f x1g x1h x1i x1j x1k x1l => kk Ex.rt (S67 xv xw xx xy xz x10 x11 x12 x13 x14 x15 x16 x17 x18 x19 x1a x1b x1c x1d x1e x1f x1g x1h x1i x1j x1k x1l)) (fun x1m x1n x1o x1p x1q x1r x1s x1t x1u x1v x1w x1x x1y x1z x20 x21 x22 x23 x24 x25 x26 x27 x28 x29 x2a x2b => kk (Ex.ex 2) (S68 x1m x1n x1o x1p x1q x1r x1s x1t x1u x1v x1w x1x x1y x1z x20 x21 x22 x23 x24 x25 x26 x27 x28 x29 x2a x2b)) x0 x1 x2 x3 x4 x5 x6 x7 x8 x9 xa xb xc xd xe xf xg xh xi xj xk xl xm xn xo xp xq xr xs xt xu := by kernel_rfl

theorem ol96_7 {β : Type} (N : Nat) : ∀ n, SndL (β := β) Try.prog Hn (Hn 96) X96_7 (M96_7 (L96_7_0 re rk N n))
  | 0 => by
    intro s h kk r ha hr
    unfold M96_7 at ha
    split at ha
    · cases ha; cases hr
    · cases ha
  | n + 1 => by
    have ih := ol96_7 (β := β) N n
    intro s h kk r ha hr
    unfold M96_7 at ha
    split at ha
    · rename_i hs
      cases ha
      have hk := via_pat hs ((e96_7_0 re rk (F116_0 re rk N) (F118_0 re rk N) (F117_0 re rk N) (F119_0 re rk N) (L96_14_0 re rk N N) (L96_7_0 re rk N n) _ _ _ _ _ _ _ _ _ _ _ _ _ _ _ _ _ _ _ _ _ _ _ _ _ _ _ _ _ _ _ kk).trans hr)
      exact round_ok (show SndAll Try.prog Hn [(116, M116_0 (F116_0 re rk N)), (118, M118_0 (F118_0 re rk N)), (117, M117_0 (F117_0 re rk N)), (119, M119_0 (F119_0 re rk N))] from ⟨o116_0 N, o118_0 N, o117_0 N, o119_0 N, trivial⟩) (spots := [.lp X96_14]) (by kernel_rfl) ⟨cut_lp (id := 14) i96_14 (ol96_14 N N) (fun s kk => by kernel_rfl), trivial⟩ ih (hd := clean ((Hn 96).lp 7).1 s) (by rw [i96_7]) hk
    · cases ha

noncomputable def X96_3 : Code := atF Try.f96 [true, true, false, true, false, false]
theorem i96_3 : firstReg X96_3 = 3 := by kernel_rfl

def GL96_3_0 {β : Type} (A : Pr) (B : Pk) (f47_0 : Int → Int → Int → Int → Int → Int → (Int → Int → Int → Int → Option β) → Option β) (l96_7_0 : (Q20 β) → (Q21 β) → Q18 β) (l96_3_0 : (Bool → Int → Option β) → (Int → Option β) → Q21 β) (k0 : Bool → Int → Option β) (k1 : Int → Option β) (x0 x1 x2 x3 x4 x5 x6 : Int) (x7 x8 x9 xa xb xc xd xe : Bool) (xf : List R) (xg xh xi xj xk xl xm : Int) (xn : List R) (xo xp : Int) : Option β :=
    match (A.cm .lss xp xo) with
    | true => (match (A.ix xp (A.len xn)) with
      | some xq => (match (B.okE [(Sh.i .i64), Sh.b, (Sh.i .i64), (Sh.i .i64)] true xn xq) with
        | true => (f47_0 xi xj xk xl (B.ci xn xq 2) (B.ci xn xq 3) (fun xr xs xt xu =>
          l96_7_0 (fun xv xw xx xy xz x10 x11 x12 x13 x14 x15 x16 x17 x18 x19 x1a x1b x1c x1d x1e x1f x1g x1h x1i x1j x1k x1l =>
            k0 x1h x1i) (fun x1m x1n x1o x1p x1q x1r x1s x1t x1u x1v x1w x1x x1y x1z x20 x21 x22 x23 x24 x25 x26 x27 x28 x29 x2a x2b =>
            l96_3_0 k0 k1 x1m x1n x1o x1p x1q x1r x1s x1t x1u x1v x1w x1x x1y x1z x20 x21 x22 x23 x24 x25 x26 x27 x28 x29 x2a (A.ar .add .i64 x2b 1)) x0 x1 x2 x3 x4 x5 x6 x7 x8 x9 xa xb xc xd xe xf xg xh xi xj xk xl xm xr xs xt xu 0 xn xo xp))
        | false => none)
      | none => none)
    | false => (k1 xm)

def L96_3_0 {β : Type} (A : Pr) (B : Pk) (N : Nat) : Nat → (Bool → Int → Option β) → (Int → Option β) → Q21 β
  | 0, _, _, _, _, _, _, _, _, _, _, _, _, _, _, _, _, _, _, _, _, _, _, _, _, _, _, _, _ => none
  | n + 1, k0, k1, x0, x1, x2, x3, x4, x5, x6, x7, x8, x9, xa, xb, xc, xd, xe, xf, xg, xh, xi, xj, xk, xl, xm, xn, xo, xp =>
    GL96_3_0 A B (F47_0 A B N) (L96_7_0 A B N N) (L96_3_0 A B N n) k0 k1 x0 x1 x2 x3 x4 x5 x6 x7 x8 x9 xa xb xc xd xe xf xg xh xi xj xk xl xm xn xo xp

def P69 : List PT := [.us 6, (.r .b), (.r (.i .i64)), .us 84]

def S69 (x0 : Bool) (x1 : Int) : List T := (T.u :: T.u :: T.u :: T.u :: T.u :: T.u :: (T.r (R.b x0)) :: (T.r (R.i .i64 x1)) :: T.u :: T.u :: T.u :: T.u :: T.u :: T.u :: T.u :: T.u :: T.u :: T.u :: T.u :: T.u :: T.u :: T.u :: T.u :: T.u :: T.u :: T.u :: T.u :: T.u :: T.u :: T.u :: T.u :: T.u :: T.u :: T.u :: T.u :: T.u :: T.u :: T.u :: T.u :: T.u :: T.u :: T.u :: T.u :: T.u :: T.u :: T.u :: T.u :: T.u :: T.u :: T.u :: T.u :: T.u :: T.u :: T.u :: T.u :: T.u :: T.u :: T.u :: T.u :: T.u :: T.u :: T.u :: T.u :: T.u :: T.u :: T.u :: T.u :: T.u :: T.u :: T.u :: T.u :: T.u :: T.u :: T.u :: T.u :: T.u :: T.u :: T.u :: T.u :: T.u :: T.u :: T.u :: T.u :: T.u :: T.u :: T.u :: T.u :: T.u :: T.u :: T.u :: T.u :: T.u :: [])

def P70 : List PT := [.us 7, (.r (.i .i64)), .us 84]

def S70 (x0 : Int) : List T := (T.u :: T.u :: T.u :: T.u :: T.u :: T.u :: T.u :: (T.r (R.i .i64 x0)) :: T.u :: T.u :: T.u :: T.u :: T.u :: T.u :: T.u :: T.u :: T.u :: T.u :: T.u :: T.u :: T.u :: T.u :: T.u :: T.u :: T.u :: T.u :: T.u :: T.u :: T.u :: T.u :: T.u :: T.u :: T.u :: T.u :: T.u :: T.u :: T.u :: T.u :: T.u :: T.u :: T.u :: T.u :: T.u :: T.u :: T.u :: T.u :: T.u :: T.u :: T.u :: T.u :: T.u :: T.u :: T.u :: T.u :: T.u :: T.u :: T.u :: T.u :: T.u :: T.u :: T.u :: T.u :: T.u :: T.u :: T.u :: T.u :: T.u :: T.u :: T.u :: T.u :: T.u :: T.u :: T.u :: T.u :: T.u :: T.u :: T.u :: T.u :: T.u :: T.u :: T.u :: T.u :: T.u :: T.u :: T.u :: T.u :: T.u :: T.u :: T.u :: T.u :: T.u :: T.u :: [])

noncomputable def M96_3 {β : Type} (l96_3_0 : (Bool → Int → Option β) → (Int → Option β) → Q21 β) (s : List T) : Option ((Ex → List T → Option β) → Option β) :=
  match gTs P68 (clean ((Hn 96).lp 3).1 s) [] with
  | some [.i x0, .i x1, .i x2, .i x3, .i x4, .i x5, .i x6, .b x7, .b x8, .b x9, .b xa, .b xb, .b xc, .b xd, .b xe, .l xf, .i xg, .i xh, .i xi, .i xj, .i xk, .i xl, .i xm, .l xn, .i xo, .i xp] => some fun kk => l96_3_0 (fun xq xr => kk Ex.rt (S69 xq xr)) (fun xs => kk (Ex.ex 0) (S70 xs)) x0 x1 x2 x3 x4 x5 x6 x7 x8 x9 xa xb xc xd xe xf xg xh xi xj xk xl xm xn xo xp
  | _ => none

theorem e96_3_0 {β : Type} (A : Pr) (B : Pk) (f47_0 : Int → Int → Int → Int → Int → Int → (Int → Int → Int → Int → Option β) → Option β) (l96_7_0 : (Q20 β) → (Q21 β) → Q18 β) (l96_3_0 : (Bool → Int → Option β) → (Int → Option β) → Q21 β) (x0 x1 x2 x3 x4 x5 x6 : Int) (x7 x8 x9 xa xb xc xd xe : Bool) (xf : List R) (xg xh xi xj xk xl xm : Int) (xn : List R) (xo xp : Int) (kk : Ex → List T → Option β) :
    uTs P68 [.i x0, .i x1, .i x2, .i x3, .i x4, .i x5, .i x6, .b x7, .b x8, .b x9, .b xa, .b xb, .b xc, .b xd, .b xe, .l xf, .i xg, .i xh, .i xi, .i xj, .i xk, .i xl, .i xm, .l xn, .i xo, .i xp] (fun s _ => evK (mkK Try.prog A B [(47, M47_0 f47_0)] [(7, M96_7 l96_7_0)] (Hn 96).pt []) X96_3 s (fun e s' => match e with
      | .nm => (match M96_3 l96_3_0 s' with | some h => h kk | none => none)
      | .ex m => kk (.ex m) (clean ((Hn 96).lp (firstReg X96_3)).2 s')
      | .rt => kk .rt (clean ((Hn 96).lp (firstReg X96_3)).2 s'))) = GL96_3_0 A B f47_0 l96_7_0 l96_3_0 (fun xq xr => kk Ex.rt (S69 xq xr)) (fun xs => kk (Ex.ex 0) (S70 xs)) x0 x1 x2 x3 x4 x5 x6 x7 x8 x9 xa xb xc xd xe xf xg xh xi xj xk xl xm xn xo xp := by kernel_rfl

theorem ol96_3 {β : Type} (N : Nat) : ∀ n, SndL (β := β) Try.prog Hn (Hn 96) X96_3 (M96_3 (L96_3_0 re rk N n))
  | 0 => by
    intro s h kk r ha hr
    unfold M96_3 at ha
    split at ha
    · cases ha; cases hr
    · cases ha
  | n + 1 => by
    have ih := ol96_3 (β := β) N n
    intro s h kk r ha hr
    unfold M96_3 at ha
    split at ha
    · rename_i hs
      cases ha
      have hk := via_pat hs ((e96_3_0 re rk (F47_0 re rk N) (L96_7_0 re rk N N) (L96_3_0 re rk N n) _ _ _ _ _ _ _ _ _ _ _ _ _ _ _ _ _ _ _ _ _ _ _ _ _ _ kk).trans hr)
      exact round_ok (show SndAll Try.prog Hn [(47, M47_0 (F47_0 re rk N))] from ⟨o47_0 N, trivial⟩) (spots := [.lp X96_7]) (by kernel_rfl) ⟨cut_lp (id := 7) i96_7 (ol96_7 N N) (fun s kk => by kernel_rfl), trivial⟩ ih (hd := clean ((Hn 96).lp 3).1 s) (by rw [i96_3]) hk
    · cases ha

def G96_0 {β : Type} (A : Pr) (B : Pk) (l96_3_0 : (Bool → Int → Option β) → (Int → Option β) → Q21 β) (x0 x1 x2 x3 x4 x5 : Int) (x6 : List R) (x7 x8 x9 xa xb xc xd : Int) (xe xf xg xh xi xj xk xl : Bool) (xm : List R) (xn xo xp xq xr xs : Int) (k0 : Bool → Option β) : Option β :=
    l96_3_0 (fun xt xu =>
    k0 xt) (fun xv =>
    k0 (A.cm .leq xv 65536)) x7 x8 x9 xa xb xc xd xe xf xg xh xi xj xk xl xm xn xo xp xq xr xs 0 x6 (A.on (A.len x6)) 0

def F96_0 {β : Type} (A : Pr) (B : Pk) (N : Nat) (x0 x1 x2 x3 x4 x5 : Int) (x6 : List R) (x7 x8 x9 xa xb xc xd : Int) (xe xf xg xh xi xj xk xl : Bool) (xm : List R) (xn xo xp xq xr xs : Int) (k0 : Bool → Option β) : Option β :=
  G96_0 A B (L96_3_0 A B N N) x0 x1 x2 x3 x4 x5 x6 x7 x8 x9 xa xb xc xd xe xf xg xh xi xj xk xl xm xn xo xp xq xr xs k0

def P71 : List PT := [(.r (.a [(.i .i64), (.i .i64), (.i .i64), (.i .i64), (.i .i64), (.i .i64), (.ro 4)])), (.r (.a [(.i .i64), (.i .i64), (.i .i64), (.i .i64), (.i .i64), .sn, (.i .i64), (.i .i64), .b, .b, .b, .b, .b, .b, .b, .b, (.ro 1), (.i .i64), (.i .i64)])), (.r (.a [(.i .i64), (.i .i64), (.i .i64), (.i .i64)]))]

def M96_0 {β : Type} (f96_0 : Int → Int → Int → Int → Int → Int → List R → Int → Int → Int → Int → Int → Int → Int → Bool → Bool → Bool → Bool → Bool → Bool → Bool → Bool → List R → Int → Int → Int → Int → Int → Int → (Bool → Option β) → Option β) (a : List T) : Option ((T → List (List T) → Option β) → Option β) :=
  match gTs P71 a [] with
  | some [.i x0, .i x1, .i x2, .i x3, .i x4, .i x5, .l x6, .i x7, .i x8, .i x9, .i xa, .i xb, .i xc, .i xd, .b xe, .b xf, .b xg, .b xh, .b xi, .b xj, .b xk, .b xl, .l xm, .i xn, .i xo, .i xp, .i xq, .i xr, .i xs] => some fun kk => f96_0 x0 x1 x2 x3 x4 x5 x6 x7 x8 x9 xa xb xc xd xe xf xg xh xi xj xk xl xm xn xo xp xq xr xs (fun xt => kk (T.r (R.b xt)) [])
  | _ => none

theorem e96_0 {β : Type} (A : Pr) (B : Pk) (l96_3_0 : (Bool → Int → Option β) → (Int → Option β) → Q21 β) (x0 x1 x2 x3 x4 x5 : Int) (x6 : List R) (x7 x8 x9 xa xb xc xd : Int) (xe xf xg xh xi xj xk xl : Bool) (xm : List R) (xn xo xp xq xr xs : Int) (kk : T → List (List T) → Option β) :
    uTs P71 [.i x0, .i x1, .i x2, .i x3, .i x4, .i x5, .l x6, .i x7, .i x8, .i x9, .i xa, .i xb, .i xc, .i xd, .b xe, .b xf, .b xg, .b xh, .b xi, .b xj, .b xk, .b xl, .l xm, .i xn, .i xo, .i xp, .i xq, .i xr, .i xs] (fun a _ => bodyK (mkK Try.prog A B [] [(3, M96_3 l96_3_0)] (Hn 96).pt []) Try.f96 a kk) = G96_0 A B l96_3_0 x0 x1 x2 x3 x4 x5 x6 x7 x8 x9 xa xb xc xd xe xf xg xh xi xj xk xl xm xn xo xp xq xr xs (fun xt => kk (T.r (R.b xt)) []) := by kernel_rfl

theorem o96_0 {β : Type} (N : Nat) : Snd (β := β) Try.prog Hn 96 (M96_0 (F96_0 re rk N)) := by
  intro a h kk r ha hr
  unfold M96_0 at ha
  split at ha
  · rename_i hs
    cases ha
    have hk := via_pat hs ((e96_0 re rk (L96_3_0 re rk N N) _ _ _ _ _ _ _ _ _ _ _ _ _ _ _ _ _ _ _ _ _ _ _ _ _ _ _ _ _ kk).trans hr)
    exact fn_ok (f := 96) (fn := Try.f96) (H := Hn) (by kernel_rfl) (show SndAll Try.prog Hn [] from trivial) (spots := [.lp X96_3]) (by kernel_rfl) ⟨cut_lp (id := 3) i96_3 (ol96_3 N N) (fun s kk => by kernel_rfl), trivial⟩ hk
  · cases ha

noncomputable def X59_9 : Code := atF Try.f59 [true, true, true, true, false, true, false, false]
theorem i59_9 : firstReg X59_9 = 9 := by kernel_rfl

def GL59_9_0 {β : Type} (A : Pr) (B : Pk) (f96_0 : Int → Int → Int → Int → Int → Int → List R → Int → Int → Int → Int → Int → Int → Int → Bool → Bool → Bool → Bool → Bool → Bool → Bool → Bool → List R → Int → Int → Int → Int → Int → Int → (Bool → Option β) → Option β) (l59_9_0 : (Int → Option β) → (Option β) → Q22 β) (k0 : Int → Option β) (k1 : Option β) (x0 x1 x2 x3 x4 x5 : Int) (x6 : List R) (x7 x8 x9 xa xb xc xd : Int) (xe xf xg xh xi xj xk xl : Bool) (xm : List R) (xn xo : Int) (xp : List R) (xq xr : Int) : Option β :=
    match (A.cm .lss xr xq) with
    | true => (match (A.ix xr (A.len xp)) with
      | some xs => (match (B.okC [(Sh.i .i64), (Sh.i .i64), (Sh.i .i64), (Sh.i .i64)] xp xs 0) with
        | true => (f96_0 x0 x1 x2 x3 x4 x5 x6 x7 x8 x9 xa xb xc xd xe xf xg xh xi xj xk xl xm xn xo (B.ci xp xs 0) (B.ci xp xs 1) (B.ci xp xs 2) (B.ci xp xs 3) (fun xt =>
          match (A.bn xt) with
            | true => (k0 5)
            | false => (l59_9_0 k0 k1 x0 x1 x2 x3 x4 x5 x6 x7 x8 x9 xa xb xc xd xe xf xg xh xi xj xk xl xm xn xo xp xq (A.ar .add .i64 xr 1))))
        | false => none)
      | none => none)
    | false => k1

def L59_9_0 {β : Type} (A : Pr) (B : Pk) (N : Nat) : Nat → (Int → Option β) → (Option β) → Q22 β
  | 0, _, _, _, _, _, _, _, _, _, _, _, _, _, _, _, _, _, _, _, _, _, _, _, _, _, _, _, _, _, _ => none
  | n + 1, k0, k1, x0, x1, x2, x3, x4, x5, x6, x7, x8, x9, xa, xb, xc, xd, xe, xf, xg, xh, xi, xj, xk, xl, xm, xn, xo, xp, xq, xr =>
    GL59_9_0 A B (F96_0 A B N) (L59_9_0 A B N n) k0 k1 x0 x1 x2 x3 x4 x5 x6 x7 x8 x9 xa xb xc xd xe xf xg xh xi xj xk xl xm xn xo xp xq xr

def P72 : List PT := [.us 4, (.r (.i .i64)), .us 49]

def S72 (x0 : Int) : List T := (T.u :: T.u :: T.u :: T.u :: (T.r (R.i .i64 x0)) :: T.u :: T.u :: T.u :: T.u :: T.u :: T.u :: T.u :: T.u :: T.u :: T.u :: T.u :: T.u :: T.u :: T.u :: T.u :: T.u :: T.u :: T.u :: T.u :: T.u :: T.u :: T.u :: T.u :: T.u :: T.u :: T.u :: T.u :: T.u :: T.u :: T.u :: T.u :: T.u :: T.u :: T.u :: T.u :: T.u :: T.u :: T.u :: T.u :: T.u :: T.u :: T.u :: T.u :: T.u :: T.u :: T.u :: T.u :: T.u :: T.u :: [])

def P73 : List PT := [.us 54]

def S73  : List T := (T.u :: T.u :: T.u :: T.u :: T.u :: T.u :: T.u :: T.u :: T.u :: T.u :: T.u :: T.u :: T.u :: T.u :: T.u :: T.u :: T.u :: T.u :: T.u :: T.u :: T.u :: T.u :: T.u :: T.u :: T.u :: T.u :: T.u :: T.u :: T.u :: T.u :: T.u :: T.u :: T.u :: T.u :: T.u :: T.u :: T.u :: T.u :: T.u :: T.u :: T.u :: T.u :: T.u :: T.u :: T.u :: T.u :: T.u :: T.u :: T.u :: T.u :: T.u :: T.u :: T.u :: T.u :: [])

def P74 : List PT := [.us 2, (.bx [(.r (.i .i64)), (.r (.i .i64)), (.r (.i .i64)), (.r (.i .i64)), (.r (.i .i64)), (.r (.i .i64)), (.r (.ro 4))]), (.bx [(.r (.i .i64)), (.r (.i .i64)), (.r (.i .i64)), (.r (.i .i64)), (.r (.i .i64)), (.r .sn), (.r (.i .i64)), (.r (.i .i64)), (.r .b), (.r .b), (.r .b), (.r .b), (.r .b), (.r .b), (.r .b), (.r .b), (.r (.ro 1)), (.r (.i .i64)), (.r (.i .i64))]), .us 38, (.own true 4), (.r (.i .i64)), (.r (.i .i64)), .us 9]

noncomputable def M59_9 {β : Type} (l59_9_0 : (Int → Option β) → (Option β) → Q22 β) (s : List T) : Option ((Ex → List T → Option β) → Option β) :=
  match gTs P74 (clean ((Hn 59).lp 9).1 s) [] with
  | some [.i x0, .i x1, .i x2, .i x3, .i x4, .i x5, .l x6, .i x7, .i x8, .i x9, .i xa, .i xb, .i xc, .i xd, .b xe, .b xf, .b xg, .b xh, .b xi, .b xj, .b xk, .b xl, .l xm, .i xn, .i xo, .l xp, .i xq, .i xr] => some fun kk => l59_9_0 (fun xs => kk Ex.rt (S72 xs)) (kk (Ex.ex 0) (S73)) x0 x1 x2 x3 x4 x5 x6 x7 x8 x9 xa xb xc xd xe xf xg xh xi xj xk xl xm xn xo xp xq xr
  | _ => none

theorem e59_9_0 {β : Type} (A : Pr) (B : Pk) (f96_0 : Int → Int → Int → Int → Int → Int → List R → Int → Int → Int → Int → Int → Int → Int → Bool → Bool → Bool → Bool → Bool → Bool → Bool → Bool → List R → Int → Int → Int → Int → Int → Int → (Bool → Option β) → Option β) (l59_9_0 : (Int → Option β) → (Option β) → Q22 β) (x0 x1 x2 x3 x4 x5 : Int) (x6 : List R) (x7 x8 x9 xa xb xc xd : Int) (xe xf xg xh xi xj xk xl : Bool) (xm : List R) (xn xo : Int) (xp : List R) (xq xr : Int) (kk : Ex → List T → Option β) :
    uTs P74 [.i x0, .i x1, .i x2, .i x3, .i x4, .i x5, .l x6, .i x7, .i x8, .i x9, .i xa, .i xb, .i xc, .i xd, .b xe, .b xf, .b xg, .b xh, .b xi, .b xj, .b xk, .b xl, .l xm, .i xn, .i xo, .l xp, .i xq, .i xr] (fun s _ => evK (mkK Try.prog A B [(96, M96_0 f96_0)] [] (Hn 59).pt []) X59_9 s (fun e s' => match e with
      | .nm => (match M59_9 l59_9_0 s' with | some h => h kk | none => none)
      | .ex m => kk (.ex m) (clean ((Hn 59).lp (firstReg X59_9)).2 s')
      | .rt => kk .rt (clean ((Hn 59).lp (firstReg X59_9)).2 s'))) = GL59_9_0 A B f96_0 l59_9_0 (fun xs => kk Ex.rt (S72 xs)) (kk (Ex.ex 0) (S73)) x0 x1 x2 x3 x4 x5 x6 x7 x8 x9 xa xb xc xd xe xf xg xh xi xj xk xl xm xn xo xp xq xr := by kernel_rfl

theorem ol59_9 {β : Type} (N : Nat) : ∀ n, SndL (β := β) Try.prog Hn (Hn 59) X59_9 (M59_9 (L59_9_0 re rk N n))
  | 0 => by
    intro s h kk r ha hr
    unfold M59_9 at ha
    split at ha
    · cases ha; cases hr
    · cases ha
  | n + 1 => by
    have ih := ol59_9 (β := β) N n
    intro s h kk r ha hr
    unfold M59_9 at ha
    split at ha
    · rename_i hs
      cases ha
      have hk := via_pat hs ((e59_9_0 re rk (F96_0 re rk N) (L59_9_0 re rk N n) _ _ _ _ _ _ _ _ _ _ _ _ _ _ _ _ _ _ _ _ _ _ _ _ _ _ _ _ kk).trans hr)
      exact round_ok (show SndAll Try.prog Hn [(96, M96_0 (F96_0 re rk N))] from ⟨o96_0 N, trivial⟩) (spots := []) (by kernel_rfl) trivial ih (hd := clean ((Hn 59).lp 9).1 s) (by rw [i59_9]) hk
    · cases ha

def G59_0 {β : Type} (A : Pr) (B : Pk) (f45_0 : Int → Int → Int → Int → Int → Int → List R → (Int → Option β) → Option β) (f72_0 : Int → Int → List R → (Bool → Option β) → Option β) (f94_0 : Int → Int → Int → Int → Int → Int → List R → Int → Int → Int → Int → Int → Int → Int → Bool → Bool → Bool → Bool → Bool → Bool → Bool → Bool → List R → Int → Int → (Bool → Option β) → Option β) (f95_0 : Int → Int → Int → Int → Int → Int → (List R → Option β) → Option β) (l59_9_0 : (Int → Option β) → (Option β) → Q22 β) (x0 x1 x2 x3 x4 x5 : Int) (x6 : List R) (x7 x8 x9 xa xb xc xd : Int) (xe xf xg xh xi xj xk xl : Bool) (xm : List R) (xn xo : Int) (k0 : Int → Option β) : Option β :=
    f45_0 x0 x1 x2 x3 x4 x5 x6 (fun xp =>
    match (A.cm .neq xp 0) with
      | true => (k0 xp)
      | false => (f72_0 1 3 [(R.i .i64 x7)] (fun xq =>
        match (A.bn xq) with
          | true => (k0 3)
          | false => (f72_0 0 2 [(R.i .i64 x9)] (fun xr =>
            match (A.bn xr) with
              | true => (k0 3)
              | false => (f72_0 1 5 [(R.i .i64 xc)] (fun xs =>
                match (A.bn xs) with
                  | true => (k0 3)
                  | false => (f94_0 x0 x1 x2 x3 x4 x5 x6 x7 x8 x9 xa xb xc xd xe xf xg xh xi xj xk xl xm xn xo (fun xt =>
                    match (A.bn xt) with
                      | true => (k0 13)
                      | false => (f95_0 x0 x1 x2 x3 x4 x5 (fun xu =>
                        l59_9_0 (fun xv =>
                          k0 xv) (k0 0) x0 x1 x2 x3 x4 x5 x6 x7 x8 x9 xa xb xc xd xe xf xg xh xi xj xk xl xm xn xo xu (A.on (A.len xu)) 0)))))))))))

def F59_0 {β : Type} (A : Pr) (B : Pk) (N : Nat) (x0 x1 x2 x3 x4 x5 : Int) (x6 : List R) (x7 x8 x9 xa xb xc xd : Int) (xe xf xg xh xi xj xk xl : Bool) (xm : List R) (xn xo : Int) (k0 : Int → Option β) : Option β :=
  G59_0 A B (F45_0 A B N) (F72_0 A B N) (F94_0 A B N) (F95_0 A B N) (L59_9_0 A B N N) x0 x1 x2 x3 x4 x5 x6 x7 x8 x9 xa xb xc xd xe xf xg xh xi xj xk xl xm xn xo k0

def M59_0 {β : Type} (f59_0 : Int → Int → Int → Int → Int → Int → List R → Int → Int → Int → Int → Int → Int → Int → Bool → Bool → Bool → Bool → Bool → Bool → Bool → Bool → List R → Int → Int → (Int → Option β) → Option β) (a : List T) : Option ((T → List (List T) → Option β) → Option β) :=
  match gTs P57 a [] with
  | some [.i x0, .i x1, .i x2, .i x3, .i x4, .i x5, .l x6, .i x7, .i x8, .i x9, .i xa, .i xb, .i xc, .i xd, .b xe, .b xf, .b xg, .b xh, .b xi, .b xj, .b xk, .b xl, .l xm, .i xn, .i xo] => some fun kk => f59_0 x0 x1 x2 x3 x4 x5 x6 x7 x8 x9 xa xb xc xd xe xf xg xh xi xj xk xl xm xn xo (fun xp => kk (T.r (R.i .i64 xp)) [])
  | _ => none

theorem e59_0 {β : Type} (A : Pr) (B : Pk) (f45_0 : Int → Int → Int → Int → Int → Int → List R → (Int → Option β) → Option β) (f72_0 : Int → Int → List R → (Bool → Option β) → Option β) (f94_0 : Int → Int → Int → Int → Int → Int → List R → Int → Int → Int → Int → Int → Int → Int → Bool → Bool → Bool → Bool → Bool → Bool → Bool → Bool → List R → Int → Int → (Bool → Option β) → Option β) (f95_0 : Int → Int → Int → Int → Int → Int → (List R → Option β) → Option β) (l59_9_0 : (Int → Option β) → (Option β) → Q22 β) (x0 x1 x2 x3 x4 x5 : Int) (x6 : List R) (x7 x8 x9 xa xb xc xd : Int) (xe xf xg xh xi xj xk xl : Bool) (xm : List R) (xn xo : Int) (kk : T → List (List T) → Option β) :
    uTs P57 [.i x0, .i x1, .i x2, .i x3, .i x4, .i x5, .l x6, .i x7, .i x8, .i x9, .i xa, .i xb, .i xc, .i xd, .b xe, .b xf, .b xg, .b xh, .b xi, .b xj, .b xk, .b xl, .l xm, .i xn, .i xo] (fun a _ => bodyK (mkK Try.prog A B [(45, M45_0 f45_0), (72, M72_0 f72_0), (94, M94_0 f94_0), (95, M95_0 f95_0)] [(9, M59_9 l59_9_0)] (Hn 59).pt []) Try.f59 a kk) = G59_0 A B f45_0 f72_0 f94_0 f95_0 l59_9_0 x0 x1 x2 x3 x4 x5 x6 x7 x8 x9 xa xb xc xd xe xf xg xh xi xj xk xl xm xn xo (fun xp => kk (T.r (R.i .i64 xp)) []) := by kernel_rfl

theorem o59_0 {β : Type} (N : Nat) : Snd (β := β) Try.prog Hn 59 (M59_0 (F59_0 re rk N)) := by
  intro a h kk r ha hr
  unfold M59_0 at ha
  split at ha
  · rename_i hs
    cases ha
    have hk := via_pat hs ((e59_0 re rk (F45_0 re rk N) (F72_0 re rk N) (F94_0 re rk N) (F95_0 re rk N) (L59_9_0 re rk N N) _ _ _ _ _ _ _ _ _ _ _ _ _ _ _ _ _ _ _ _ _ _ _ _ _ kk).trans hr)
    exact fn_ok (f := 59) (fn := Try.f59) (H := Hn) (by kernel_rfl) (show SndAll Try.prog Hn [(45, M45_0 (F45_0 re rk N)), (72, M72_0 (F72_0 re rk N)), (94, M94_0 (F94_0 re rk N)), (95, M95_0 (F95_0 re rk N))] from ⟨o45_0 N, o72_0 N, o94_0 N, o95_0 N, trivial⟩) (spots := [.lp X59_9]) (by kernel_rfl) ⟨cut_lp (id := 9) i59_9 (ol59_9 N N) (fun s kk => by kernel_rfl), trivial⟩ hk
  · cases ha

def G97_0 {β : Type} (A : Pr) (B : Pk)  (x0 : List R) (k0 : List R → Option β) : Option β :=
    match (A.nz (A.on (A.len x0))) with
    | true => none
    | false => (match (A.small (A.len (A.app [] x0)) 32) with
      | true => (k0 (A.app [] x0))
      | false => none)

def F97_0 {β : Type} (A : Pr) (B : Pk) (N : Nat) (x0 : List R) (k0 : List R → Option β) : Option β :=
  G97_0 A B  x0 k0

def P75 : List PT := [(.r (.ro 4))]

def M97_0 {β : Type} (f97_0 : List R → (List R → Option β) → Option β) (a : List T) : Option ((T → List (List T) → Option β) → Option β) :=
  match gTs P75 a [] with
  | some [.l x0] => some fun kk => f97_0 x0 (fun x1 => kk (T.own true 4 x1) [])
  | _ => none

theorem e97_0 {β : Type} (A : Pr) (B : Pk)  (x0 : List R) (kk : T → List (List T) → Option β) :
    uTs P75 [.l x0] (fun a _ => bodyK (mkK Try.prog A B [] [] (Hn 97).pt []) Try.f97 a kk) = G97_0 A B  x0 (fun x1 => kk (T.own true 4 x1) []) := by kernel_rfl

theorem o97_0 {β : Type} (N : Nat) : Snd (β := β) Try.prog Hn 97 (M97_0 (F97_0 re rk N)) := by
  intro a h kk r ha hr
  unfold M97_0 at ha
  split at ha
  · rename_i hs
    cases ha
    have hk := via_pat hs ((e97_0 re rk  _ kk).trans hr)
    exact fn_ok (f := 97) (fn := Try.f97) (H := Hn) (by kernel_rfl) (show SndAll Try.prog Hn [] from trivial) (spots := []) (by kernel_rfl) trivial hk
  · cases ha

def G98_0 {β : Type} (A : Pr) (B : Pk)   (k0 : List R → Option β) : Option β :=
    k0 []

def F98_0 {β : Type} (A : Pr) (B : Pk) (N : Nat)  (k0 : List R → Option β) : Option β :=
  G98_0 A B   k0

def P76 : List PT := [(.r .sn)]

def M98_0 {β : Type} (f98_0 : (List R → Option β) → Option β) (a : List T) : Option ((T → List (List T) → Option β) → Option β) :=
  match gTs P76 a [] with
  | some [] => some fun kk => f98_0  (fun x0 => kk (T.own true 2 x0) [])
  | _ => none

theorem e98_0 {β : Type} (A : Pr) (B : Pk)   (kk : T → List (List T) → Option β) :
    uTs P76 [] (fun a _ => bodyK (mkK Try.prog A B [] [] (Hn 98).pt []) Try.f98 a kk) = G98_0 A B   (fun x0 => kk (T.own true 2 x0) []) := by kernel_rfl

theorem o98_0 {β : Type} (N : Nat) : Snd (β := β) Try.prog Hn 98 (M98_0 (F98_0 re rk N)) := by
  intro a h kk r ha hr
  unfold M98_0 at ha
  split at ha
  · rename_i hs
    cases ha
    have hk := via_pat hs ((e98_0 re rk   kk).trans hr)
    exact fn_ok (f := 98) (fn := Try.f98) (H := Hn) (by kernel_rfl) (show SndAll Try.prog Hn [] from trivial) (spots := []) (by kernel_rfl) trivial hk
  · cases ha

def G99_0 {β : Type} (A : Pr) (B : Pk)   (k0 : List R → Option β) : Option β :=
    k0 []

def F99_0 {β : Type} (A : Pr) (B : Pk) (N : Nat)  (k0 : List R → Option β) : Option β :=
  G99_0 A B   k0

def M99_0 {β : Type} (f99_0 : (List R → Option β) → Option β) (a : List T) : Option ((T → List (List T) → Option β) → Option β) :=
  match gTs P76 a [] with
  | some [] => some fun kk => f99_0  (fun x0 => kk (T.own true 1 x0) [])
  | _ => none

theorem e99_0 {β : Type} (A : Pr) (B : Pk)   (kk : T → List (List T) → Option β) :
    uTs P76 [] (fun a _ => bodyK (mkK Try.prog A B [] [] (Hn 99).pt []) Try.f99 a kk) = G99_0 A B   (fun x0 => kk (T.own true 1 x0) []) := by kernel_rfl

theorem o99_0 {β : Type} (N : Nat) : Snd (β := β) Try.prog Hn 99 (M99_0 (F99_0 re rk N)) := by
  intro a h kk r ha hr
  unfold M99_0 at ha
  split at ha
  · rename_i hs
    cases ha
    have hk := via_pat hs ((e99_0 re rk   kk).trans hr)
    exact fn_ok (f := 99) (fn := Try.f99) (H := Hn) (by kernel_rfl) (show SndAll Try.prog Hn [] from trivial) (spots := []) (by kernel_rfl) trivial hk
  · cases ha

def G63_0 {β : Type} (A : Pr) (B : Pk) (f97_0 : List R → (List R → Option β) → Option β) (f98_0 : (List R → Option β) → Option β) (f99_0 : (List R → Option β) → Option β) (x0 x1 x2 x3 x4 x5 : Int) (x6 : List R) (x7 x8 x9 xa xb xc xd : Int) (xe xf xg xh xi xj xk xl : Bool) (xm xn : Int) (k0 : Q23 β) : Option β :=
    f97_0 x6 (fun xo =>
    f98_0 (fun xp =>
      f99_0 (fun xq =>
        k0 x0 x1 x2 x3 x4 x5 xo x7 x8 x9 xa xb xp xc xd xe xf xg xh xi xj xk xl xq xm xn)))

def F63_0 {β : Type} (A : Pr) (B : Pk) (N : Nat) (x0 x1 x2 x3 x4 x5 : Int) (x6 : List R) (x7 x8 x9 xa xb xc xd : Int) (xe xf xg xh xi xj xk xl : Bool) (xm xn : Int) (k0 : Q23 β) : Option β :=
  G63_0 A B (F97_0 A B N) (F98_0 A B N) (F99_0 A B N) x0 x1 x2 x3 x4 x5 x6 x7 x8 x9 xa xb xc xd xe xf xg xh xi xj xk xl xm xn k0

def P77 : List PT := [(.r (.a [(.i .i64), (.i .i64), (.i .i64), (.i .i64), (.i .i64), (.i .i64), (.ro 4)])), (.r (.a [(.i .i64), (.i .i64), (.i .i64), (.i .i64), (.i .i64), .sn, (.i .i64), (.i .i64), .b, .b, .b, .b, .b, .b, .b, .b, .sn, (.i .i64), (.i .i64)]))]

def M63_0 {β : Type} (f63_0 : Int → Int → Int → Int → Int → Int → List R → Int → Int → Int → Int → Int → Int → Int → Bool → Bool → Bool → Bool → Bool → Bool → Bool → Bool → Int → Int → (Q23 β) → Option β) (a : List T) : Option ((T → List (List T) → Option β) → Option β) :=
  match gTs P77 a [] with
  | some [.i x0, .i x1, .i x2, .i x3, .i x4, .i x5, .l x6, .i x7, .i x8, .i x9, .i xa, .i xb, .i xc, .i xd, .b xe, .b xf, .b xg, .b xh, .b xi, .b xj, .b xk, .b xl, .i xm, .i xn] => some fun kk => f63_0 x0 x1 x2 x3 x4 x5 x6 x7 x8 x9 xa xb xc xd xe xf xg xh xi xj xk xl xm xn (fun xo xp xq xr xs xt xu xv xw xx xy xz x10 x11 x12 x13 x14 x15 x16 x17 x18 x19 x1a x1b x1c x1d => kk (T.tp true [(T.tp false [(T.r (R.i .i64 xo)), (T.r (R.i .i64 xp)), (T.r (R.i .i64 xq)), (T.r (R.i .i64 xr)), (T.r (R.i .i64 xs)), (T.r (R.i .i64 xt)), (T.own true 4 xu)]), (T.tp false [(T.r (R.i .i64 xv)), (T.r (R.i .i64 xw)), (T.r (R.i .i64 xx)), (T.r (R.i .i64 xy)), (T.r (R.i .i64 xz)), (T.own true 2 x10), (T.r (R.i .i64 x11)), (T.r (R.i .i64 x12)), (T.r (R.b x13)), (T.r (R.b x14)), (T.r (R.b x15)), (T.r (R.b x16)), (T.r (R.b x17)), (T.r (R.b x18)), (T.r (R.b x19)), (T.r (R.b x1a)), (T.own true 1 x1b), (T.r (R.i .i64 x1c)), (T.r (R.i .i64 x1d))])]) [])
  | _ => none

theorem e63_0 {β : Type} (A : Pr) (B : Pk) (f97_0 : List R → (List R → Option β) → Option β) (f98_0 : (List R → Option β) → Option β) (f99_0 : (List R → Option β) → Option β) (x0 x1 x2 x3 x4 x5 : Int) (x6 : List R) (x7 x8 x9 xa xb xc xd : Int) (xe xf xg xh xi xj xk xl : Bool) (xm xn : Int) (kk : T → List (List T) → Option β) :
    uTs P77 [.i x0, .i x1, .i x2, .i x3, .i x4, .i x5, .l x6, .i x7, .i x8, .i x9, .i xa, .i xb, .i xc, .i xd, .b xe, .b xf, .b xg, .b xh, .b xi, .b xj, .b xk, .b xl, .i xm, .i xn] (fun a _ => bodyK (mkK Try.prog A B [(97, M97_0 f97_0), (98, M98_0 f98_0), (99, M99_0 f99_0)] [] (Hn 63).pt []) Try.f63 a kk) = G63_0 A B f97_0 f98_0 f99_0 x0 x1 x2 x3 x4 x5 x6 x7 x8 x9 xa xb xc xd xe xf xg xh xi xj xk xl xm xn (fun xo xp xq xr xs xt xu xv xw xx xy xz x10 x11 x12 x13 x14 x15 x16 x17 x18 x19 x1a x1b x1c x1d => kk (T.tp true [(T.tp false [(T.r (R.i .i64 xo)), (T.r (R.i .i64 xp)), (T.r (R.i .i64 xq)), (T.r (R.i .i64 xr)), (T.r (R.i .i64 xs)), (T.r (R.i .i64 xt)), (T.own true 4 xu)]), (T.tp false [(T.r (R.i .i64 xv)), (T.r (R.i .i64 xw)), (T.r (R.i .i64 xx)), (T.r (R.i .i64 xy)), (T.r (R.i .i64 xz)), (T.own true 2 x10), (T.r (R.i .i64 x11)), (T.r (R.i .i64 x12)), (T.r (R.b x13)), (T.r (R.b x14)), (T.r (R.b x15)), (T.r (R.b x16)), (T.r (R.b x17)), (T.r (R.b x18)), (T.r (R.b x19)), (T.r (R.b x1a)), (T.own true 1 x1b), (T.r (R.i .i64 x1c)), (T.r (R.i .i64 x1d))])]) []) := by kernel_rfl

theorem o63_0 {β : Type} (N : Nat) : Snd (β := β) Try.prog Hn 63 (M63_0 (F63_0 re rk N)) := by
  intro a h kk r ha hr
  unfold M63_0 at ha
  split at ha
  · rename_i hs
    cases ha
    have hk := via_pat hs ((e63_0 re rk (F97_0 re rk N) (F98_0 re rk N) (F99_0 re rk N) _ _ _ _ _ _ _ _ _ _ _ _ _ _ _ _ _ _ _ _ _ _ _ _ kk).trans hr)
    exact fn_ok (f := 63) (fn := Try.f63) (H := Hn) (by kernel_rfl) (show SndAll Try.prog Hn [(97, M97_0 (F97_0 re rk N)), (98, M98_0 (F98_0 re rk N)), (99, M99_0 (F99_0 re rk N))] from ⟨o97_0 N, o98_0 N, o99_0 N, trivial⟩) (spots := []) (by kernel_rfl) trivial hk
  · cases ha

def G33_0 {β : Type} (A : Pr) (B : Pk) (f59_0 : Int → Int → Int → Int → Int → Int → List R → Int → Int → Int → Int → Int → Int → Int → Bool → Bool → Bool → Bool → Bool → Bool → Bool → Bool → List R → Int → Int → (Int → Option β) → Option β) (f60_0 : Int → Int → Int → Int → Int → Int → Int → Int → (Int → Int → Int → Int → Option β) → Option β) (f61_0 : Int → Int → Int → Int → (Bool → Option β) → Option β) (f62_0 : Int → Int → Int → Int → (Bool → Option β) → Option β) (f63_0 : Int → Int → Int → Int → Int → Int → List R → Int → Int → Int → Int → Int → Int → Int → Bool → Bool → Bool → Bool → Bool → Bool → Bool → Bool → Int → Int → (Q23 β) → Option β) (f47_0 : Int → Int → Int → Int → Int → Int → (Int → Int → Int → Int → Option β) → Option β) (f45_0 : Int → Int → Int → Int → Int → Int → List R → (Int → Option β) → Option β) (x0 x1 x2 x3 x4 x5 : Int) (x6 : List R) (x7 x8 x9 xa xb xc xd : Int) (xe xf xg xh xi xj xk xl : Bool) (xm : List R) (xn xo xp xq xr xs xt xu : Int) (k0 : Int → Int → Int → Int → Int → Int → Int → Option β) (k1 : Int → Int → Int → Int → Int → Int → List R → Int → Option β) : Option β :=
    f59_0 x0 x1 x2 x3 x4 x5 x6 x7 x8 x9 xa xb xc xd xe xf xg xh xi xj xk xl xm xn xo (fun xv =>
    match (A.cm .neq xv 0) with
      | true => (k0 0 0 0 0 0 0 xv)
      | false => (match (A.cm .lss xp 0) with
        | true => (k0 0 0 0 0 0 0 2)
        | false => (match (A.cm .gtr xp 16) with
          | true => (k0 0 0 0 0 0 0 2)
          | false => (match (A.cm .lss xq 0) with
            | true => (k0 0 0 0 0 0 0 2)
            | false => (match (A.cm .gtr xq x8) with
              | true => (k0 0 0 0 0 0 0 2)
              | false => (match (A.bn (A.ba (A.cm .eql xr 0) (A.ba (A.cm .eql xs 0) (A.ba (A.cm .eql xt 0) (A.ba (A.cm .eql xu 0) true))))) with
                | true => (f60_0 x0 x1 x2 x3 xr xs xt xu (fun xw xx xy xz =>
                  f61_0 xr xs xt xu (fun x10 =>
                    match (A.bn x10) with
                      | true => (k0 0 0 0 0 0 0 2)
                      | false => (f62_0 xw xx xy xz (fun x11 =>
                        match x11 with
                          | true => (k0 0 0 0 0 0 0 2)
                          | false => (match (A.sh (A.cv .u64 xq)) with
                            | true => (f63_0 x0 x1 x2 x3 x4 x5 x6 0 0 0 0 0 0 0 false false false false false false false false 0 0 (fun x12 x13 x14 x15 x16 x17 x18 x19 x1a x1b x1c x1d x1e x1f x1g x1h x1i x1j x1k x1l x1m x1n x1o x1p x1q x1r =>
                              f47_0 xw xx xy xz (A.ar .shl .i64 1 (A.cv .u64 xq)) (A.ar .shl .i64 1 (A.cv .u64 xq)) (fun x1s x1t x1u x1v =>
                                f45_0 x1s x1t x1u x1v 4096 4096 x18 (fun x1w =>
                                  match (A.cm .neq x1w 0) with
                                    | true => (k0 0 0 0 0 0 0 2)
                                    | false => (k1 x1s x1t x1u x1v 4096 4096 x18 0)))))
                            | false => none))))))
                | false => (match (A.sh (A.cv .u64 xq)) with
                  | true => (f63_0 x0 x1 x2 x3 x4 x5 x6 0 0 0 0 0 0 0 false false false false false false false false 0 0 (fun x1x x1y x1z x20 x21 x22 x23 x24 x25 x26 x27 x28 x29 x2a x2b x2c x2d x2e x2f x2g x2h x2i x2j x2k x2l x2m =>
                    f47_0 x0 x1 x2 x3 (A.ar .shl .i64 1 (A.cv .u64 xq)) (A.ar .shl .i64 1 (A.cv .u64 xq)) (fun x2n x2o x2p x2q =>
                      f45_0 x2n x2o x2p x2q 4096 4096 x23 (fun x2r =>
                        match (A.cm .neq x2r 0) with
                          | true => (k0 0 0 0 0 0 0 2)
                          | false => (k1 x2n x2o x2p x2q 4096 4096 x23 0)))))
                  | false => none)))))))

def F33_0 {β : Type} (A : Pr) (B : Pk) (N : Nat) (x0 x1 x2 x3 x4 x5 : Int) (x6 : List R) (x7 x8 x9 xa xb xc xd : Int) (xe xf xg xh xi xj xk xl : Bool) (xm : List R) (xn xo xp xq xr xs xt xu : Int) (k0 : Int → Int → Int → Int → Int → Int → Int → Option β) (k1 : Int → Int → Int → Int → Int → Int → List R → Int → Option β) : Option β :=
  G33_0 A B (F59_0 A B N) (F60_0 A B N) (F61_0 A B N) (F62_0 A B N) (F63_0 A B N) (F47_0 A B N) (F45_0 A B N) x0 x1 x2 x3 x4 x5 x6 x7 x8 x9 xa xb xc xd xe xf xg xh xi xj xk xl xm xn xo xp xq xr xs xt xu k0 k1

def P78 : List PT := [(.r (.a [(.i .i64), (.i .i64), (.i .i64), (.i .i64), (.i .i64), (.i .i64), (.ro 4)])), (.r (.a [(.i .i64), (.i .i64), (.i .i64), (.i .i64), (.i .i64), .sn, (.i .i64), (.i .i64), .b, .b, .b, .b, .b, .b, .b, .b, (.ro 1), (.i .i64), (.i .i64)])), (.r (.a [(.i .i64), (.i .i64), (.i .i64), (.i .i64), (.i .i64), (.i .i64)]))]

def M33_0 {β : Type} (f33_0 : Int → Int → Int → Int → Int → Int → List R → Int → Int → Int → Int → Int → Int → Int → Bool → Bool → Bool → Bool → Bool → Bool → Bool → Bool → List R → Int → Int → Int → Int → Int → Int → Int → Int → (Int → Int → Int → Int → Int → Int → Int → Option β) → (Int → Int → Int → Int → Int → Int → List R → Int → Option β) → Option β) (a : List T) : Option ((T → List (List T) → Option β) → Option β) :=
  match gTs P78 a [] with
  | some (.i x0 :: .i x1 :: .i x2 :: .i x3 :: .i x4 :: .i x5 :: .l x6 :: .i x7 :: .i x8 :: .i x9 :: .i xa :: .i xb :: .i xc :: .i xd :: .b xe :: .b xf :: .b xg :: .b xh :: .b xi :: .b xj :: .b xk :: .b xl :: .l xm :: .i xn :: .i xo :: .i xp :: .i xq :: .i xr :: .i xs :: .i xt :: .i xu :: []) => some fun kk => f33_0 x0 x1 x2 x3 x4 x5 x6 x7 x8 x9 xa xb xc xd xe xf xg xh xi xj xk xl xm xn xo xp xq xr xs xt xu (fun xv xw xx xy xz x10 x11 => kk (T.tp true [(T.tp false [(T.r (R.i .i64 xv)), (T.r (R.i .i64 xw)), (T.r (R.i .i64 xx)), (T.r (R.i .i64 xy)), (T.r (R.i .i64 xz)), (T.r (R.i .i64 x10)), (T.r R.sn)]), (T.r (R.i .i64 x11))]) []) (fun x12 x13 x14 x15 x16 x17 x18 x19 => kk (T.tp true [(T.tp false [(T.r (R.i .i64 x12)), (T.r (R.i .i64 x13)), (T.r (R.i .i64 x14)), (T.r (R.i .i64 x15)), (T.r (R.i .i64 x16)), (T.r (R.i .i64 x17)), (T.own true 4 x18)]), (T.r (R.i .i64 x19))]) [])
  | _ => none

theorem e33_0 {β : Type} (A : Pr) (B : Pk) (f59_0 : Int → Int → Int → Int → Int → Int → List R → Int → Int → Int → Int → Int → Int → Int → Bool → Bool → Bool → Bool → Bool → Bool → Bool → Bool → List R → Int → Int → (Int → Option β) → Option β) (f60_0 : Int → Int → Int → Int → Int → Int → Int → Int → (Int → Int → Int → Int → Option β) → Option β) (f61_0 : Int → Int → Int → Int → (Bool → Option β) → Option β) (f62_0 : Int → Int → Int → Int → (Bool → Option β) → Option β) (f63_0 : Int → Int → Int → Int → Int → Int → List R → Int → Int → Int → Int → Int → Int → Int → Bool → Bool → Bool → Bool → Bool → Bool → Bool → Bool → Int → Int → (Q23 β) → Option β) (f47_0 : Int → Int → Int → Int → Int → Int → (Int → Int → Int → Int → Option β) → Option β) (f45_0 : Int → Int → Int → Int → Int → Int → List R → (Int → Option β) → Option β) (x0 x1 x2 x3 x4 x5 : Int) (x6 : List R) (x7 x8 x9 xa xb xc xd : Int) (xe xf xg xh xi xj xk xl : Bool) (xm : List R) (xn xo xp xq xr xs xt xu : Int) (kk : T → List (List T) → Option β) :
    uTs P78 (.i x0 :: .i x1 :: .i x2 :: .i x3 :: .i x4 :: .i x5 :: .l x6 :: .i x7 :: .i x8 :: .i x9 :: .i xa :: .i xb :: .i xc :: .i xd :: .b xe :: .b xf :: .b xg :: .b xh :: .b xi :: .b xj :: .b xk :: .b xl :: .l xm :: .i xn :: .i xo :: .i xp :: .i xq :: .i xr :: .i xs :: .i xt :: .i xu :: []) (fun a _ => bodyK (mkK Try.prog A B [(59, M59_0 f59_0), (60, M60_0 f60_0), (61, M61_0 f61_0), (62, M62_0 f62_0), (63, M63_0 f63_0), (47, M47_0 f47_0), (45, M45_0 f45_0)] [] (Hn 33).pt []) Try.f33 a kk) = G33_0 A B f59_0 f60_0 f61_0 f62_0 f63_0 f47_0 f45_0 x0 x1 x2 x3 x4 x5 x6 x7 x8 x9 xa xb xc xd xe xf xg xh xi xj xk xl xm xn xo xp xq xr xs xt xu (fun xv xw xx xy xz x10 x11 => kk (T.tp true [(T.tp false [(T.r (R.i .i64 xv)), (T.r (R.i .i64 xw)), (T.r (R.i .i64 xx)), (T.r (R.i .i64 xy)), (T.r (R.i .i64 xz)), (T.r (R.i .i64 x10)), (T.r R.sn)]), (T.r (R.i .i64 x11))]) []) (fun x12 x13 x14 x15 x16 x17 x18 x19 => kk (T.tp true [(T.tp false [(T.r (R.i .i64 x12)), (T.r (R.i .i64 x13)), (T.r (R.i .i64 x14)), (T.r (R.i .i64 x15)), (T.r (R.i .i64 x16)), (T.r (R.i .i64 x17)), (T.own true 4 x18)]), (T.r (R.i .i64 x19))]) []) := by kernel_rfl

theorem o33_0 {β : Type} (N : Nat) : Snd (β := β) Try.prog Hn 33 (M33_0 (F33_0 re rk N)) := by
  intro a h kk r ha hr
  unfold M33_0 at ha
  split at ha
  · rename_i hs
    cases ha
    have hk := via_pat hs ((e33_0 re rk (F59_0 re rk N) (F60_0 re rk N) (F61_0 re rk N) (F62_0 re rk N) (F63_0 re rk N) (F47_0 re rk N) (F45_0 re rk N) _ _ _ _ _ _ _ _ _ _ _ _ _ _ _ _ _ _ _ _ _ _ _ _ _ _ _ _ _ _ _ kk).trans hr)
    exact fn_ok (f := 33) (fn := Try.f33) (H := Hn) (by kernel_rfl) (show SndAll Try.prog Hn [(59, M59_0 (F59_0 re rk N)), (60, M60_0 (F60_0 re rk N)), (61, M61_0 (F61_0 re rk N)), (62, M62_0 (F62_0 re rk N)), (63, M63_0 (F63_0 re rk N)), (47, M47_0 (F47_0 re rk N)), (45, M45_0 (F45_0 re rk N))] from ⟨o59_0 N, o60_0 N, o61_0 N, o62_0 N, o63_0 N, o47_0 N, o45_0 N, trivial⟩) (spots := []) (by kernel_rfl) trivial hk
  · cases ha

def G32_0 {β : Type} (A : Pr) (B : Pk) (f33_0 : Int → Int → Int → Int → Int → Int → List R → Int → Int → Int → Int → Int → Int → Int → Bool → Bool → Bool → Bool → Bool → Bool → Bool → Bool → List R → Int → Int → Int → Int → Int → Int → Int → Int → (Int → Int → Int → Int → Int → Int → Int → Option β) → (Int → Int → Int → Int → Int → Int → List R → Int → Option β) → Option β)  (k0 : Bool → Option β) : Option β :=
    f33_0 0 0 7 5 8 8 [(R.a [(R.i .i64 8), (R.b false), (R.i .i64 1), (R.i .i64 1)])] 2 1 0 2 2 1 1 false false false false false false false false [(R.i .i64 1), (R.i .i64 1), (R.i .i64 1), (R.i .i64 1)] 16 0 0 1 0 0 0 0 (fun x0 x1 x2 x3 x4 x5 x6 =>
    f33_0 0 0 7 5 8 8 [(R.a [(R.i .i64 8), (R.b false), (R.i .i64 1), (R.i .i64 1)])] 2 1 0 2 2 1 1 false false false false false false false false [(R.i .i64 1), (R.i .i64 1), (R.i .i64 1), (R.i .i64 1)] 16 0 0 1 2 0 4 2 (fun x7 x8 x9 xa xb xc xd =>
      f33_0 0 0 7 5 8 8 [(R.a [(R.i .i64 8), (R.b false), (R.i .i64 1), (R.i .i64 1)])] 2 1 0 2 2 1 1 false false false false false false false false [(R.i .i64 1), (R.i .i64 1), (R.i .i64 1), (R.i .i64 1)] 16 0 0 2 0 0 0 0 (fun xe xf xg xh xi xj xk =>
        match (A.cm .eql x6 0) with
          | true => (match (A.cm .eql xd 0) with
            | true => (match (A.cm .eql xk 2) with
              | true => (match (A.ba (A.cm .eql x0 0) (A.ba (A.cm .eql x1 0) (A.ba (A.cm .eql x2 4) (A.ba (A.cm .eql x3 3) true)))) with
                | true => (k0 (A.ba (A.cm .eql x7 1) (A.ba (A.cm .eql x8 0) (A.ba (A.cm .eql x9 2) (A.ba (A.cm .eql xa 1) true)))))
                | false => (k0 false))
              | false => (k0 false))
            | false => (k0 false))
          | false => (k0 false)) (fun xl xm xn xo xp xq xr xs =>
        match (A.cm .eql x6 0) with
          | true => (match (A.cm .eql xd 0) with
            | true => (match (A.cm .eql xs 2) with
              | true => (match (A.ba (A.cm .eql x0 0) (A.ba (A.cm .eql x1 0) (A.ba (A.cm .eql x2 4) (A.ba (A.cm .eql x3 3) true)))) with
                | true => (k0 (A.ba (A.cm .eql x7 1) (A.ba (A.cm .eql x8 0) (A.ba (A.cm .eql x9 2) (A.ba (A.cm .eql xa 1) true)))))
                | false => (k0 false))
              | false => (k0 false))
            | false => (k0 false))
          | false => (k0 false))) (fun xt xu xv xw xx xy xz x10 =>
      f33_0 0 0 7 5 8 8 [(R.a [(R.i .i64 8), (R.b false), (R.i .i64 1), (R.i .i64 1)])] 2 1 0 2 2 1 1 false false false false false false false false [(R.i .i64 1), (R.i .i64 1), (R.i .i64 1), (R.i .i64 1)] 16 0 0 2 0 0 0 0 (fun x11 x12 x13 x14 x15 x16 x17 =>
        match (A.cm .eql x6 0) with
          | true => (match (A.cm .eql x10 0) with
            | true => (match (A.cm .eql x17 2) with
              | true => (match (A.ba (A.cm .eql x0 0) (A.ba (A.cm .eql x1 0) (A.ba (A.cm .eql x2 4) (A.ba (A.cm .eql x3 3) true)))) with
                | true => (k0 (A.ba (A.cm .eql xt 1) (A.ba (A.cm .eql xu 0) (A.ba (A.cm .eql xv 2) (A.ba (A.cm .eql xw 1) true)))))
                | false => (k0 false))
              | false => (k0 false))
            | false => (k0 false))
          | false => (k0 false)) (fun x18 x19 x1a x1b x1c x1d x1e x1f =>
        match (A.cm .eql x6 0) with
          | true => (match (A.cm .eql x10 0) with
            | true => (match (A.cm .eql x1f 2) with
              | true => (match (A.ba (A.cm .eql x0 0) (A.ba (A.cm .eql x1 0) (A.ba (A.cm .eql x2 4) (A.ba (A.cm .eql x3 3) true)))) with
                | true => (k0 (A.ba (A.cm .eql xt 1) (A.ba (A.cm .eql xu 0) (A.ba (A.cm .eql xv 2) (A.ba (A.cm .eql xw 1) true)))))
                | false => (k0 false))
              | false => (k0 false))
            | false => (k0 false))
          | false => (k0 false)))) (fun x1g x1h x1i x1j x1k x1l x1m x1n =>
    f33_0 0 0 7 5 8 8 [(R.a [(R.i .i64 8), (R.b false), (R.i .i64 1), (R.i .i64 1)])] 2 1 0 2 2 1 1 false false false false false false false false [(R.i .i64 1), (R.i .i64 1), (R.i .i64 1), (R.i .i64 1)] 16 0 0 1 2 0 4 2 (fun x1o x1p x1q x1r x1s x1t x1u =>
      f33_0 0 0 7 5 8 8 [(R.a [(R.i .i64 8), (R.b false), (R.i .i64 1), (R.i .i64 1)])] 2 1 0 2 2 1 1 false false false false false false false false [(R.i .i64 1), (R.i .i64 1), (R.i .i64 1), (R.i .i64 1)] 16 0 0 2 0 0 0 0 (fun x1v x1w x1x x1y x1z x20 x21 =>
        match (A.cm .eql x1n 0) with
          | true => (match (A.cm .eql x1u 0) with
            | true => (match (A.cm .eql x21 2) with
              | true => (match (A.ba (A.cm .eql x1g 0) (A.ba (A.cm .eql x1h 0) (A.ba (A.cm .eql x1i 4) (A.ba (A.cm .eql x1j 3) true)))) with
                | true => (k0 (A.ba (A.cm .eql x1o 1) (A.ba (A.cm .eql x1p 0) (A.ba (A.cm .eql x1q 2) (A.ba (A.cm .eql x1r 1) true)))))
                | false => (k0 false))
              | false => (k0 false))
            | false => (k0 false))
          | false => (k0 false)) (fun x22 x23 x24 x25 x26 x27 x28 x29 =>
        match (A.cm .eql x1n 0) with
          | true => (match (A.cm .eql x1u 0) with
            | true => (match (A.cm .eql x29 2) with
              | true => (match (A.ba (A.cm .eql x1g 0) (A.ba (A.cm .eql x1h 0) (A.ba (A.cm .eql x1i 4) (A.ba (A.cm .eql x1j 3) true)))) with
                | true => (k0 (A.ba (A.cm .eql x1o 1) (A.ba (A.cm .eql x1p 0) (A.ba (A.cm .eql x1q 2) (A.ba (A.cm .eql x1r 1) true)))))
                | false => (k0 false))
              | false => (k0 false))
            | false => (k0 false))
          | false => (k0 false))) (fun x2a x2b x2c x2d x2e x2f x2g x2h =>
      f33_0 0 0 7 5 8 8 [(R.a [(R.i .i64 8), (R.b false), (R.i .i64 1), (R.i .i64 1)])] 2 1 0 2 2 1 1 false false false false false false false false [(R.i .i64 1), (R.i .i64 1), (R.i .i64 1), (R.i .i64 1)] 16 0 0 2 0 0 0 0 (fun x2i x2j x2k x2l x2m x2n x2o =>
        match (A.cm .eql x1n 0) with
          | true => (match (A.cm .eql x2h 0) with
            | true => (match (A.cm .eql x2o 2) with
              | true => (match (A.ba (A.cm .eql x1g 0) (A.ba (A.cm .eql x1h 0) (A.ba (A.cm .eql x1i 4) (A.ba (A.cm .eql x1j 3) true)))) with
                | true => (k0 (A.ba (A.cm .eql x2a 1) (A.ba (A.cm .eql x2b 0) (A.ba (A.cm .eql x2c 2) (A.ba (A.cm .eql x2d 1) true)))))
                | false => (k0 false))
              | false => (k0 false))
            | false => (k0 false))
          | false => (k0 false)) (fun x2p x2q x2r x2s x2t x2u x2v x2w =>
        match (A.cm .eql x1n 0) with
          | true => (match (A.cm .eql x2h 0) with
            | true => (match (A.cm .eql x2w 2) with
              | true => (match (A.ba (A.cm .eql x1g 0) (A.ba (A.cm .eql x1h 0) (A.ba (A.cm .eql x1i 4) (A.ba (A.cm .eql x1j 3) true)))) with
                | true => (k0 (A.ba (A.cm .eql x2a 1) (A.ba (A.cm .eql x2b 0) (A.ba (A.cm .eql x2c 2) (A.ba (A.cm .eql x2d 1) true)))))
                | false => (k0 false))
              | false => (k0 false))
            | false => (k0 false))
          | false => (k0 false))))

def F32_0 {β : Type} (A : Pr) (B : Pk) (N : Nat)  (k0 : Bool → Option β) : Option β :=
  G32_0 A B (F33_0 A B N)  k0

def P79 : List PT := []

def M32_0 {β : Type} (f32_0 : (Bool → Option β) → Option β) (a : List T) : Option ((T → List (List T) → Option β) → Option β) :=
  match gTs P79 a [] with
  | some [] => some fun kk => f32_0  (fun x0 => kk (T.r (R.b x0)) [])
  | _ => none

theorem e32_0 {β : Type} (A : Pr) (B : Pk) (f33_0 : Int → Int → Int → Int → Int → Int → List R → Int → Int → Int → Int → Int → Int → Int → Bool → Bool → Bool → Bool → Bool → Bool → Bool → Bool → List R → Int → Int → Int → Int → Int → Int → Int → Int → (Int → Int → Int → Int → Int → Int → Int → Option β) → (Int → Int → Int → Int → Int → Int → List R → Int → Option β) → Option β)  (kk : T → List (List T) → Option β) :
    uTs P79 [] (fun a _ => bodyK (mkK Try.prog A B [(33, M33_0 f33_0)] [] (Hn 32).pt []) Try.f32 a kk) = G32_0 A B f33_0  (fun x0 => kk (T.r (R.b x0)) []) := by kernel_rfl

theorem o32_0 {β : Type} (N : Nat) : Snd (β := β) Try.prog Hn 32 (M32_0 (F32_0 re rk N)) := by
  intro a h kk r ha hr
  unfold M32_0 at ha
  split at ha
  · rename_i hs
    cases ha
    have hk := via_pat hs ((e32_0 re rk (F33_0 re rk N)  kk).trans hr)
    exact fn_ok (f := 32) (fn := Try.f32) (H := Hn) (by kernel_rfl) (show SndAll Try.prog Hn [(33, M33_0 (F33_0 re rk N))] from ⟨o33_0 N, trivial⟩) (spots := []) (by kernel_rfl) trivial hk
  · cases ha

def GL94_6t1_0 {β : Type} (A : Pr) (B : Pk) (f72_0 : Int → Int → List R → (Bool → Option β) → Option β) (l94_6t1_0 : (Q24 β) → (Q23 β) → Q25 β) (k0 : Q24 β) (k1 : Q23 β) (x0 x1 x2 x3 x4 x5 : Int) (x6 : List R) (x7 x8 x9 xa xb : Int) (xc : List R) (xd xe : Int) (xf xg xh xi xj xk xl xm : Bool) (xn : List R) (xo xp : Int) (xq : List R) (xr xs : Int) : Option β :=
    match (A.cm .lss xs xr) with
    | true => (match (A.ix xs (A.len xq)) with
      | some xt => (match (B.okE [(Sh.i .i64), (Sh.i .i64)] true xq xt) with
        | true => (f72_0 (A.mn xs 1) 12 [(R.i .i64 (B.ci xq xt 0)), (R.i .i64 (B.ci xq xt 1))] (fun xu =>
          match (A.bn xu) with
            | true => (k0 x0 x1 x2 x3 x4 x5 x6 x7 x8 x9 xa xb xc xd xe xf xg xh xi xj xk xl xm xn xo xp false)
            | false => (l94_6t1_0 k0 k1 x0 x1 x2 x3 x4 x5 x6 x7 x8 x9 xa xb xc xd xe xf xg xh xi xj xk xl xm xn xo xp xq xr (A.ar .add .i64 xs 1))))
        | false => none)
      | none => none)
    | false => (k1 x0 x1 x2 x3 x4 x5 x6 x7 x8 x9 xa xb xc xd xe xf xg xh xi xj xk xl xm xn xo xp)

def L94_6t1_0 {β : Type} (A : Pr) (B : Pk) (N : Nat) : Nat → (Q24 β) → (Q23 β) → Q25 β
  | 0, _, _, _, _, _, _, _, _, _, _, _, _, _, _, _, _, _, _, _, _, _, _, _, _, _, _, _, _, _, _, _ => none
  | n + 1, k0, k1, x0, x1, x2, x3, x4, x5, x6, x7, x8, x9, xa, xb, xc, xd, xe, xf, xg, xh, xi, xj, xk, xl, xm, xn, xo, xp, xq, xr, xs =>
    GL94_6t1_0 A B (F72_0 A B N) (L94_6t1_0 A B N n) k0 k1 x0 x1 x2 x3 x4 x5 x6 x7 x8 x9 xa xb xc xd xe xf xg xh xi xj xk xl xm xn xo xp xq xr xs

def P80 : List PT := [.us 2, (.bx [(.r (.i .i64)), (.r (.i .i64)), (.r (.i .i64)), (.r (.i .i64)), (.r (.i .i64)), (.r (.i .i64)), (.r (.ro 4))]), (.bx [(.r (.i .i64)), (.r (.i .i64)), (.r (.i .i64)), (.r (.i .i64)), (.r (.i .i64)), (.r (.ro 2)), (.r (.i .i64)), (.r (.i .i64)), (.r .b), (.r .b), (.r .b), (.r .b), (.r .b), (.r .b), (.r .b), (.r .b), (.r (.ro 1)), (.r (.i .i64)), (.r (.i .i64))]), (.r .b), .us 109]

def S80 (x0 x1 x2 x3 x4 x5 : Int) (x6 : List R) (x7 x8 x9 xa xb : Int) (xc : List R) (xd xe : Int) (xf xg xh xi xj xk xl xm : Bool) (xn : List R) (xo xp : Int) (xq : Bool) : List T := (T.u :: T.u :: (T.bx [(T.r (R.i .i64 x0)), (T.r (R.i .i64 x1)), (T.r (R.i .i64 x2)), (T.r (R.i .i64 x3)), (T.r (R.i .i64 x4)), (T.r (R.i .i64 x5)), (T.r (R.ro 4 x6))]) :: (T.bx [(T.r (R.i .i64 x7)), (T.r (R.i .i64 x8)), (T.r (R.i .i64 x9)), (T.r (R.i .i64 xa)), (T.r (R.i .i64 xb)), (T.r (R.ro 2 xc)), (T.r (R.i .i64 xd)), (T.r (R.i .i64 xe)), (T.r (R.b xf)), (T.r (R.b xg)), (T.r (R.b xh)), (T.r (R.b xi)), (T.r (R.b xj)), (T.r (R.b xk)), (T.r (R.b xl)), (T.r (R.b xm)), (T.r (R.ro 1 xn)), (T.r (R.i .i64 xo)), (T.r (R.i .i64 xp))]) :: (T.r (R.b xq)) :: T.u :: T.u :: T.u :: T.u :: T.u :: T.u :: T.u :: T.u :: T.u :: T.u :: T.u :: T.u :: T.u :: T.u :: T.u :: T.u :: T.u :: T.u :: T.u :: T.u :: T.u :: T.u :: T.u :: T.u :: T.u :: T.u :: T.u :: T.u :: T.u :: T.u :: T.u :: T.u :: T.u :: T.u :: T.u :: T.u :: T.u :: T.u :: T.u :: T.u :: T.u :: T.u :: T.u :: T.u :: T.u :: T.u :: T.u :: T.u :: T.u :: T.u :: T.u :: T.u :: T.u :: T.u :: T.u :: T.u :: T.u :: T.u :: T.u :: T.u :: T.u :: T.u :: T.u :: T.u :: T.u :: T.u :: T.u :: T.u :: T.u :: T.u :: T.u :: T.u :: T.u :: T.u :: T.u :: T.u :: T.u :: T.u :: T.u :: T.u :: T.u :: T.u :: T.u :: T.u :: T.u :: T.u :: T.u :: T.u :: T.u :: T.u :: T.u :: T.u :: T.u :: T.u :: T.u :: T.u :: T.u :: T.u :: T.u :: T.u :: T.u :: T.u :: T.u :: T.u :: T.u :: T.u :: T.u :: T.u :: T.u :: [])

def P81 : List PT := [.us 2, (.bx [(.r (.i .i64)), (.r (.i .i64)), (.r (.i .i64)), (.r (.i .i64)), (.r (.i .i64)), (.r (.i .i64)), (.r (.ro 4))]), (.bx [(.r (.i .i64)), (.r (.i .i64)), (.r (.i .i64)), (.r (.i .i64)), (.r (.i .i64)), (.r (.ro 2)), (.r (.i .i64)), (.r (.i .i64)), (.r .b), (.r .b), (.r .b), (.r .b), (.r .b), (.r .b), (.r .b), (.r .b), (.r (.ro 1)), (.r (.i .i64)), (.r (.i .i64))]), .us 110]

def S81 (x0 x1 x2 x3 x4 x5 : Int) (x6 : List R) (x7 x8 x9 xa xb : Int) (xc : List R) (xd xe : Int) (xf xg xh xi xj xk xl xm : Bool) (xn : List R) (xo xp : Int) : List T := (T.u :: T.u :: (T.bx [(T.r (R.i .i64 x0)), (T.r (R.i .i64 x1)), (T.r (R.i .i64 x2)), (T.r (R.i .i64 x3)), (T.r (R.i .i64 x4)), (T.r (R.i .i64 x5)), (T.r (R.ro 4 x6))]) :: (T.bx [(T.r (R.i .i64 x7)), (T.r (R.i .i64 x8)), (T.r (R.i .i64 x9)), (T.r (R.i .i64 xa)), (T.r (R.i .i64 xb)), (T.r (R.ro 2 xc)), (T.r (R.i .i64 xd)), (T.r (R.i .i64 xe)), (T.r (R.b xf)), (T.r (R.b xg)), (T.r (R.b xh)), (T.r (R.b xi)), (T.r (R.b xj)), (T.r (R.b xk)), (T.r (R.b xl)), (T.r (R.b xm)), (T.r (R.ro 1 xn)), (T.r (R.i .i64 xo)), (T.r (R.i .i64 xp))]) :: T.u :: T.u :: T.u :: T.u :: T.u :: T.u :: T.u :: T.u :: T.u :: T.u :: T.u :: T.u :: T.u :: T.u :: T.u :: T.u :: T.u :: T.u :: T.u :: T.u :: T.u :: T.u :: T.u :: T.u :: T.u :: T.u :: T.u :: T.u :: T.u :: T.u :: T.u :: T.u :: T.u :: T.u :: T.u :: T.u :: T.u :: T.u :: T.u :: T.u :: T.u :: T.u :: T.u :: T.u :: T.u :: T.u :: T.u :: T.u :: T.u :: T.u :: T.u :: T.u :: T.u :: T.u :: T.u :: T.u :: T.u :: T.u :: T.u :: T.u :: T.u :: T.u :: T.u :: T.u :: T.u :: T.u :: T.u :: T.u :: T.u :: T.u :: T.u :: T.u :: T.u :: T.u :: T.u :: T.u :: T.u :: T.u :: T.u :: T.u :: T.u :: T.u :: T.u :: T.u :: T.u :: T.u :: T.u :: T.u :: T.u :: T.u :: T.u :: T.u :: T.u :: T.u :: T.u :: T.u :: T.u :: T.u :: T.u :: T.u :: T.u :: T.u :: T.u :: T.u :: T.u :: T.u :: T.u :: T.u :: T.u :: T.u :: [])

def P82 : List PT := [.us 2, (.bx [(.r (.i .i64)), (.r (.i .i64)), (.r (.i .i64)), (.r (.i .i64)), (.r (.i .i64)), (.r (.i .i64)), (.r (.ro 4))]), (.bx [(.r (.i .i64)), (.r (.i .i64)), (.r (.i .i64)), (.r (.i .i64)), (.r (.i .i64)), (.r (.ro 2)), (.r (.i .i64)), (.r (.i .i64)), (.r .b), (.r .b), (.r .b), (.r .b), (.r .b), (.r .b), (.r .b), (.r .b), (.r (.ro 1)), (.r (.i .i64)), (.r (.i .i64))]), .us 32, (.r (.ro 2)), (.r (.i .i64)), (.r (.i .i64)), .us 75]

noncomputable def M94_6t1 {β : Type} (l94_6t1_0 : (Q24 β) → (Q23 β) → Q25 β) (s : List T) : Option ((Ex → List T → Option β) → Option β) :=
  match gTs P82 (clean ((Hn 94).lp 6).1 s) [] with
  | some [.i x0, .i x1, .i x2, .i x3, .i x4, .i x5, .l x6, .i x7, .i x8, .i x9, .i xa, .i xb, .l xc, .i xd, .i xe, .b xf, .b xg, .b xh, .b xi, .b xj, .b xk, .b xl, .b xm, .l xn, .i xo, .i xp, .l xq, .i xr, .i xs] => some fun kk => l94_6t1_0 (fun xt xu xv xw xx xy xz x10 x11 x12 x13 x14 x15 x16 x17 x18 x19 x1a x1b x1c x1d x1e x1f x1g x1h x1i x1j => kk Ex.rt (S80 xt xu xv xw xx xy xz x10 x11 x12 x13 x14 x15 x16 x17 x18 x19 x1a x1b x1c x1d x1e x1f x1g x1h x1i x1j)) (fun x1k x1l x1m x1n x1o x1p x1q x1r x1s x1t x1u x1v x1w x1x x1y x1z x20 x21 x22 x23 x24 x25 x26 x27 x28 x29 => kk (Ex.ex 0) (S81 x1k x1l x1m x1n x1o x1p x1q x1r x1s x1t x1u x1v x1w x1x x1y x1z x20 x21 x22 x23 x24 x25 x26 x27 x28 x29)) x0 x1 x2 x3 x4 x5 x6 x7 x8 x9 xa xb xc xd xe xf xg xh xi xj xk xl xm xn xo xp xq xr xs
  | _ => none

theorem e94_6t1_0 {β : Type} (A : Pr) (B : Pk) (f72_0 : Int → Int → List R → (Bool → Option β) → Option β) (l94_6t1_0 : (Q24 β) → (Q23 β) → Q25 β) (x0 x1 x2 x3 x4 x5 : Int) (x6 : List R) (x7 x8 x9 xa xb : Int) (xc : List R) (xd xe : Int) (xf xg xh xi xj xk xl xm : Bool) (xn : List R) (xo xp : Int) (xq : List R) (xr xs : Int) (kk : Ex → List T → Option β) :
    uTs P82 [.i x0, .i x1, .i x2, .i x3, .i x4, .i x5, .l x6, .i x7, .i x8, .i x9, .i xa, .i xb, .l xc, .i xd, .i xe, .b xf, .b xg, .b xh, .b xi, .b xj, .b xk, .b xl, .b xm, .l xn, .i xo, .i xp, .l xq, .i xr, .i xs] (fun s _ => evK (mkK Try.prog A B [(72, M72_0 f72_0)] [] (Hn 94).pt []) X94_6 s (fun e s' => match e with
      | .nm => (match M94_6t1 l94_6t1_0 s' with | some h => h kk | none => none)
      | .ex m => kk (.ex m) (clean ((Hn 94).lp (firstReg X94_6)).2 s')
      | .rt => kk .rt (clean ((Hn 94).lp (firstReg X94_6)).2 s'))) = GL94_6t1_0 A B f72_0 l94_6t1_0 (fun xt xu xv xw xx xy xz x10 x11 x12 x13 x14 x15 x16 x17 x18 x19 x1a x1b x1c x1d x1e x1f x1g x1h x1i x1j => kk Ex.rt (S80 xt xu xv xw xx xy xz x10 x11 x12 x13 x14 x15 x16 x17 x18 x19 x1a x1b x1c x1d x1e x1f x1g x1h x1i x1j)) (fun x1k x1l x1m x1n x1o x1p x1q x1r x1s x1t x1u x1v x1w x1x x1y x1z x20 x21 x22 x23 x24 x25 x26 x27 x28 x29 => kk (Ex.ex 0) (S81 x1k x1l x1m x1n x1o x1p x1q x1r x1s x1t x1u x1v x1w x1x x1y x1z x20 x21 x22 x23 x24 x25 x26 x27 x28 x29)) x0 x1 x2 x3 x4 x5 x6 x7 x8 x9 xa xb xc xd xe xf xg xh xi xj xk xl xm xn xo xp xq xr xs := by kernel_rfl

theorem ol94_6t1 {β : Type} (N : Nat) : ∀ n, SndL (β := β) Try.prog Hn (Hn 94) X94_6 (M94_6t1 (L94_6t1_0 re rk N n))
  | 0 => by
    intro s h kk r ha hr
    unfold M94_6t1 at ha
    split at ha
    · cases ha; cases hr
    · cases ha
  | n + 1 => by
    have ih := ol94_6t1 (β := β) N n
    intro s h kk r ha hr
    unfold M94_6t1 at ha
    split at ha
    · rename_i hs
      cases ha
      have hk := via_pat hs ((e94_6t1_0 re rk (F72_0 re rk N) (L94_6t1_0 re rk N n) _ _ _ _ _ _ _ _ _ _ _ _ _ _ _ _ _ _ _ _ _ _ _ _ _ _ _ _ _ kk).trans hr)
      exact round_ok (show SndAll Try.prog Hn [(72, M72_0 (F72_0 re rk N))] from ⟨o72_0 N, trivial⟩) (spots := []) (by kernel_rfl) trivial ih (hd := clean ((Hn 94).lp 6).1 s) (by rw [i94_6]) hk
    · cases ha

def G94_1 {β : Type} (A : Pr) (B : Pk) (f72_0 : Int → Int → List R → (Bool → Option β) → Option β) (l94_6t1_0 : (Q24 β) → (Q23 β) → Q25 β) (x0 x1 x2 x3 x4 x5 : Int) (x6 : List R) (x7 x8 x9 xa xb : Int) (xc : List R) (xd xe : Int) (xf xg xh xi xj xk xl xm : Bool) (xn : List R) (xo xp : Int) (k0 : Bool → Option β) : Option β :=
    f72_0 0 5 [(R.i .i64 x8)] (fun xq =>
    match (A.bn xq) with
      | true => (k0 false)
      | false => (f72_0 2 6 [(R.i .i64 xa), (R.i .i64 xb)] (fun xr =>
        match (A.bn xr) with
          | true => (k0 false)
          | false => (match (A.cm .neq (A.on (A.len xc)) 0) with
            | true => (match (A.cm .neq (A.on (A.len xc)) (A.ar .add .i64 x8 1)) with
              | true => (k0 false)
              | false => (l94_6t1_0 (fun xs xt xu xv xw xx xy xz x10 x11 x12 x13 x14 x15 x16 x17 x18 x19 x1a x1b x1c x1d x1e x1f x1g x1h x1i =>
                k0 x1i) (fun x1j x1k x1l x1m x1n x1o x1p x1q x1r x1s x1t x1u x1v x1w x1x x1y x1z x20 x21 x22 x23 x24 x25 x26 x27 x28 =>
                f72_0 1 16 [(R.i .i64 x1x)] (fun x29 =>
                  match (A.bn x29) with
                    | true => (k0 false)
                    | false => (match (A.cm .neq (A.on (A.len x26)) (A.ar .add .i64 (A.ar .mul .i64 3 x1r) 1)) with
                      | true => (k0 false)
                      | false => (f72_0 1 65536 x26 (fun x2a =>
                        match (A.bn x2a) with
                          | true => (k0 false)
                          | false => (f72_0 8 32 [(R.i .i64 x27)] (fun x2b =>
                            match (A.bn x2b) with
                              | true => (k0 false)
                              | false => (f72_0 0 30 [(R.i .i64 x28)] (fun x2c =>
                                match (A.bn x2c) with
                                  | true => (k0 false)
                                  | false => (match (A.cm .eql x1s 0) with
                                    | true => (k0 true)
                                    | false => (match (A.cm .geq (A.on (A.len x1p)) 3) with
                                      | true => (match (A.ix 0 (A.len x1p)) with
                                        | some x2d => (match (B.okE [(Sh.i .i64), Sh.b, (Sh.i .i64), (Sh.i .i64)] true x1p x2d) with
                                          | true => (match (A.ix 1 (A.len x1p)) with
                                            | some x2e => (match (B.okE [(Sh.i .i64), Sh.b, (Sh.i .i64), (Sh.i .i64)] true x1p x2e) with
                                              | true => (match (A.ba (A.cm .eql (B.ci x1p x2d 0) (B.ci x1p x2e 0)) (A.ba (A.be (B.cb x1p x2d 1) (B.cb x1p x2e 1)) (A.ba (A.cm .eql (B.ci x1p x2d 2) (B.ci x1p x2e 2)) (A.ba (A.cm .eql (B.ci x1p x2d 3) (B.ci x1p x2e 3)) true)))) with
                                                | true => (match (A.ix 0 (A.len x1p)) with
                                                  | some x2f => (match (B.okE [(Sh.i .i64), Sh.b, (Sh.i .i64), (Sh.i .i64)] true x1p x2f) with
                                                    | true => (match (A.ix 2 (A.len x1p)) with
                                                      | some x2g => (match (B.okE [(Sh.i .i64), Sh.b, (Sh.i .i64), (Sh.i .i64)] true x1p x2g) with
                                                        | true => (k0 (A.ba (A.cm .eql (B.ci x1p x2f 0) (B.ci x1p x2g 0)) (A.ba (A.be (B.cb x1p x2f 1) (B.cb x1p x2g 1)) (A.ba (A.cm .eql (B.ci x1p x2f 2) (B.ci x1p x2g 2)) (A.ba (A.cm .eql (B.ci x1p x2f 3) (B.ci x1p x2g 3)) true)))))
                                                        | false => none)
                                                      | none => none)
                                                    | false => none)
                                                  | none => none)
                                                | false => (k0 false))
                                              | false => none)
                                            | none => none)
                                          | false => none)
                                        | none => none)
                                      | false => (k0 false)))))))))))) x0 x1 x2 x3 x4 x5 x6 x7 x8 x9 xa xb xc xd xe xf xg xh xi xj xk xl xm xn xo xp xc (A.on (A.len xc)) 0))
            | false => (l94_6t1_0 (fun x2h x2i x2j x2k x2l x2m x2n x2o x2p x2q x2r x2s x2t x2u x2v x2w x2x x2y x2z x30 x31 x32 x33 x34 x35 x36 x37 =>
              k0 x37) (fun x38 x39 x3a x3b x3c x3d x3e x3f x3g x3h x3i x3j x3k x3l x3m x3n x3o x3p x3q x3r x3s x3t x3u x3v x3w x3x =>
              f72_0 1 16 [(R.i .i64 x3m)] (fun x3y =>
                match (A.bn x3y) with
                  | true => (k0 false)
                  | false => (match (A.cm .neq (A.on (A.len x3v)) (A.ar .add .i64 (A.ar .mul .i64 3 x3g) 1)) with
                    | true => (k0 false)
                    | false => (f72_0 1 65536 x3v (fun x3z =>
                      match (A.bn x3z) with
                        | true => (k0 false)
                        | false => (f72_0 8 32 [(R.i .i64 x3w)] (fun x40 =>
                          match (A.bn x40) with
                            | true => (k0 false)
                            | false => (f72_0 0 30 [(R.i .i64 x3x)] (fun x41 =>
                              match (A.bn x41) with
                                | true => (k0 false)
                                | false => (match (A.cm .eql x3h 0) with
                                  | true => (k0 true)
                                  | false => (match (A.cm .geq (A.on (A.len x3e)) 3) with
                                    | true => (match (A.ix 0 (A.len x3e)) with
                                      | some x42 => (match (B.okE [(Sh.i .i64), Sh.b, (Sh.i .i64), (Sh.i .i64)] true x3e x42) with
                                        | true => (match (A.ix 1 (A.len x3e)) with
                                          | some x43 => (match (B.okE [(Sh.i .i64), Sh.b, (Sh.i .i64), (Sh.i .i64)] true x3e x43) with
                                            | true => (match (A.ba (A.cm .eql (B.ci x3e x42 0) (B.ci x3e x43 0)) (A.ba (A.be (B.cb x3e x42 1) (B.cb x3e x43 1)) (A.ba (A.cm .eql (B.ci x3e x42 2) (B.ci x3e x43 2)) (A.ba (A.cm .eql (B.ci x3e x42 3) (B.ci x3e x43 3)) true)))) with
                                              | true => (match (A.ix 0 (A.len x3e)) with
                                                | some x44 => (match (B.okE [(Sh.i .i64), Sh.b, (Sh.i .i64), (Sh.i .i64)] true x3e x44) with
                                                  | true => (match (A.ix 2 (A.len x3e)) with
                                                    | some x45 => (match (B.okE [(Sh.i .i64), Sh.b, (Sh.i .i64), (Sh.i .i64)] true x3e x45) with
                                                      | true => (k0 (A.ba (A.cm .eql (B.ci x3e x44 0) (B.ci x3e x45 0)) (A.ba (A.be (B.cb x3e x44 1) (B.cb x3e x45 1)) (A.ba (A.cm .eql (B.ci x3e x44 2) (B.ci x3e x45 2)) (A.ba (A.cm .eql (B.ci x3e x44 3) (B.ci x3e x45 3)) true)))))
                                                      | false => none)
                                                    | none => none)
                                                  | false => none)
                                                | none => none)
                                              | false => (k0 false))
                                            | false => none)
                                          | none => none)
                                        | false => none)
                                      | none => none)
                                    | false => (k0 false)))))))))))) x0 x1 x2 x3 x4 x5 x6 x7 x8 x9 xa xb xc xd xe xf xg xh xi xj xk xl xm xn xo xp xc (A.on (A.len xc)) 0)))))

def F94_1 {β : Type} (A : Pr) (B : Pk) (N : Nat) (x0 x1 x2 x3 x4 x5 : Int) (x6 : List R) (x7 x8 x9 xa xb : Int) (xc : List R) (xd xe : Int) (xf xg xh xi xj xk xl xm : Bool) (xn : List R) (xo xp : Int) (k0 : Bool → Option β) : Option β :=
  G94_1 A B (F72_0 A B N) (L94_6t1_0 A B N N) x0 x1 x2 x3 x4 x5 x6 x7 x8 x9 xa xb xc xd xe xf xg xh xi xj xk xl xm xn xo xp k0

def M94_1 {β : Type} (f94_1 : Int → Int → Int → Int → Int → Int → List R → Int → Int → Int → Int → Int → List R → Int → Int → Bool → Bool → Bool → Bool → Bool → Bool → Bool → Bool → List R → Int → Int → (Bool → Option β) → Option β) (a : List T) : Option ((T → List (List T) → Option β) → Option β) :=
  match gTs P39 a [] with
  | some [.i x0, .i x1, .i x2, .i x3, .i x4, .i x5, .l x6, .i x7, .i x8, .i x9, .i xa, .i xb, .l xc, .i xd, .i xe, .b xf, .b xg, .b xh, .b xi, .b xj, .b xk, .b xl, .b xm, .l xn, .i xo, .i xp] => some fun kk => f94_1 x0 x1 x2 x3 x4 x5 x6 x7 x8 x9 xa xb xc xd xe xf xg xh xi xj xk xl xm xn xo xp (fun xq => kk (T.r (R.b xq)) [])
  | _ => none

theorem e94_1 {β : Type} (A : Pr) (B : Pk) (f72_0 : Int → Int → List R → (Bool → Option β) → Option β) (l94_6t1_0 : (Q24 β) → (Q23 β) → Q25 β) (x0 x1 x2 x3 x4 x5 : Int) (x6 : List R) (x7 x8 x9 xa xb : Int) (xc : List R) (xd xe : Int) (xf xg xh xi xj xk xl xm : Bool) (xn : List R) (xo xp : Int) (kk : T → List (List T) → Option β) :
    uTs P39 [.i x0, .i x1, .i x2, .i x3, .i x4, .i x5, .l x6, .i x7, .i x8, .i x9, .i xa, .i xb, .l xc, .i xd, .i xe, .b xf, .b xg, .b xh, .b xi, .b xj, .b xk, .b xl, .b xm, .l xn, .i xo, .i xp] (fun a _ => bodyK (mkK Try.prog A B [(72, M72_0 f72_0)] [(6, M94_6t1 l94_6t1_0)] (Hn 94).pt []) Try.f94 a kk) = G94_1 A B f72_0 l94_6t1_0 x0 x1 x2 x3 x4 x5 x6 x7 x8 x9 xa xb xc xd xe xf xg xh xi xj xk xl xm xn xo xp (fun xq => kk (T.r (R.b xq)) []) := by kernel_rfl

theorem o94_1 {β : Type} (N : Nat) : Snd (β := β) Try.prog Hn 94 (M94_1 (F94_1 re rk N)) := by
  intro a h kk r ha hr
  unfold M94_1 at ha
  split at ha
  · rename_i hs
    cases ha
    have hk := via_pat hs ((e94_1 re rk (F72_0 re rk N) (L94_6t1_0 re rk N N) _ _ _ _ _ _ _ _ _ _ _ _ _ _ _ _ _ _ _ _ _ _ _ _ _ _ kk).trans hr)
    exact fn_ok (f := 94) (fn := Try.f94) (H := Hn) (by kernel_rfl) (show SndAll Try.prog Hn [(72, M72_0 (F72_0 re rk N))] from ⟨o72_0 N, trivial⟩) (spots := [.lp X94_6]) (by kernel_rfl) ⟨cut_lp (id := 6) i94_6 (ol94_6t1 N N) (fun s kk => by kernel_rfl), trivial⟩ hk
  · cases ha

def G116_1 {β : Type} (A : Pr) (B : Pk)  (x0 x1 x2 x3 x4 : Int) (x5 : List R) (x6 x7 : Int) (x8 x9 xa xb xc xd xe xf : Bool) (xg : List R) (xh xi xj : Int) (k0 : Int → Int → Option β) : Option β :=
    match (A.cm .lss xj 0) with
    | true => (k0 0 0)
    | false => (match (A.cm .gtr xj x1) with
      | true => (k0 0 0)
      | false => (match (A.cm .eql (A.on (A.len x5)) 0) with
        | true => (k0 12 12)
        | false => (match (A.cm .geq xj (A.on (A.len x5))) with
          | true => (k0 0 0)
          | false => (match (A.ix xj (A.len x5)) with
            | some xk => (match (B.okE [(Sh.i .i64), (Sh.i .i64)] true x5 xk) with
              | true => (k0 (B.ci x5 xk 0) (B.ci x5 xk 1))
              | false => none)
            | none => none))))

def F116_1 {β : Type} (A : Pr) (B : Pk) (N : Nat) (x0 x1 x2 x3 x4 : Int) (x5 : List R) (x6 x7 : Int) (x8 x9 xa xb xc xd xe xf : Bool) (xg : List R) (xh xi xj : Int) (k0 : Int → Int → Option β) : Option β :=
  G116_1 A B  x0 x1 x2 x3 x4 x5 x6 x7 x8 x9 xa xb xc xd xe xf xg xh xi xj k0

def M116_1 {β : Type} (f116_1 : Int → Int → Int → Int → Int → List R → Int → Int → Bool → Bool → Bool → Bool → Bool → Bool → Bool → Bool → List R → Int → Int → Int → (Int → Int → Option β) → Option β) (a : List T) : Option ((T → List (List T) → Option β) → Option β) :=
  match gTs P22 a [] with
  | some [.i x0, .i x1, .i x2, .i x3, .i x4, .l x5, .i x6, .i x7, .b x8, .b x9, .b xa, .b xb, .b xc, .b xd, .b xe, .b xf, .l xg, .i xh, .i xi, .i xj] => some fun kk => f116_1 x0 x1 x2 x3 x4 x5 x6 x7 x8 x9 xa xb xc xd xe xf xg xh xi xj (fun xk xl => kk (T.r (R.a [(R.i .i64 xk), (R.i .i64 xl)])) [])
  | _ => none

theorem e116_1 {β : Type} (A : Pr) (B : Pk)  (x0 x1 x2 x3 x4 : Int) (x5 : List R) (x6 x7 : Int) (x8 x9 xa xb xc xd xe xf : Bool) (xg : List R) (xh xi xj : Int) (kk : T → List (List T) → Option β) :
    uTs P22 [.i x0, .i x1, .i x2, .i x3, .i x4, .l x5, .i x6, .i x7, .b x8, .b x9, .b xa, .b xb, .b xc, .b xd, .b xe, .b xf, .l xg, .i xh, .i xi, .i xj] (fun a _ => bodyK (mkK Try.prog A B [] [] (Hn 116).pt []) Try.f116 a kk) = G116_1 A B  x0 x1 x2 x3 x4 x5 x6 x7 x8 x9 xa xb xc xd xe xf xg xh xi xj (fun xk xl => kk (T.r (R.a [(R.i .i64 xk), (R.i .i64 xl)])) []) := by kernel_rfl

theorem o116_1 {β : Type} (N : Nat) : Snd (β := β) Try.prog Hn 116 (M116_1 (F116_1 re rk N)) := by
  intro a h kk r ha hr
  unfold M116_1 at ha
  split at ha
  · rename_i hs
    cases ha
    have hk := via_pat hs ((e116_1 re rk  _ _ _ _ _ _ _ _ _ _ _ _ _ _ _ _ _ _ _ _ kk).trans hr)
    exact fn_ok (f := 116) (fn := Try.f116) (H := Hn) (by kernel_rfl) (show SndAll Try.prog Hn [] from trivial) (spots := []) (by kernel_rfl) trivial hk
  · cases ha

def GL96_14t1_0 {β : Type} (A : Pr) (B : Pk) (f120_0 : Int → Int → Int → Int → Int → Int → (Int → Int → Int → Int → Option β) → Option β) (f117_0 : Int → Int → Int → Int → Int → Int → (Int → Option β) → Option β) (l96_14t1_0 : (Q26 β) → (Q27 β) → Q28 β) (k0 : Q26 β) (k1 : Q27 β) (x0 x1 x2 x3 x4 : Int) (x5 : List R) (x6 x7 : Int) (x8 x9 xa xb xc xd xe xf : Bool) (xg : List R) (xh xi xj xk xl xm xn xo xp xq xr xs xt xu : Int) (xv : List R) (xw xx : Int) (xy : List R) (xz x10 : Int) : Option β :=
    match (A.cm .lss x10 xz) with
    | true => (match (A.ix x10 (A.len xy)) with
      | some x11 => (match (B.okC [(Sh.i .i64)] xy x11 0) with
        | true => (f120_0 xo xp xq xr x1 (B.ci xy x11 0) (fun x12 x13 x14 x15 =>
          f117_0 x12 x13 x14 x15 (A.mn x3 xt) (A.mn x4 xu) (fun x16 =>
            match (A.cm .gtr x16 65536) with
              | true => (k0 x0 x1 x2 x3 x4 x5 x6 x7 x8 x9 xa xb xc xd xe xf xg xh xi xj xk xl xm false xn xo xp xq xr xs xv xw xx)
              | false => (l96_14t1_0 k0 k1 x0 x1 x2 x3 x4 x5 x6 x7 x8 x9 xa xb xc xd xe xf xg xh xi xj xk xl xm xn xo xp xq xr xs xt xu xv xw xx xy xz (A.ar .add .i64 x10 1)))))
        | false => none)
      | none => none)
    | false => (k1 x0 x1 x2 x3 x4 x5 x6 x7 x8 x9 xa xb xc xd xe xf xg xh xi xj xk xl xm xn xo xp xq xr xs xv xw xx)

def L96_14t1_0 {β : Type} (A : Pr) (B : Pk) (N : Nat) : Nat → (Q26 β) → (Q27 β) → Q28 β
  | 0, _, _, _, _, _, _, _, _, _, _, _, _, _, _, _, _, _, _, _, _, _, _, _, _, _, _, _, _, _, _, _, _, _, _, _, _, _, _, _ => none
  | n + 1, k0, k1, x0, x1, x2, x3, x4, x5, x6, x7, x8, x9, xa, xb, xc, xd, xe, xf, xg, xh, xi, xj, xk, xl, xm, xn, xo, xp, xq, xr, xs, xt, xu, xv, xw, xx, xy, xz, x10 =>
    GL96_14t1_0 A B (F120_0 A B N) (F117_0 A B N) (L96_14t1_0 A B N n) k0 k1 x0 x1 x2 x3 x4 x5 x6 x7 x8 x9 xa xb xc xd xe xf xg xh xi xj xk xl xm xn xo xp xq xr xs xt xu xv xw xx xy xz x10

def P83 : List PT := [.us 4, (.bx [(.r (.i .i64)), (.r (.i .i64)), (.r (.i .i64)), (.r (.i .i64)), (.r (.i .i64)), (.r (.ro 2)), (.r (.i .i64)), (.r (.i .i64)), (.r .b), (.r .b), (.r .b), (.r .b), (.r .b), (.r .b), (.r .b), (.r .b), (.r (.ro 1)), (.r (.i .i64)), (.r (.i .i64))]), (.bx [(.r (.i .i64)), (.r (.i .i64)), (.r (.i .i64)), (.r (.i .i64))]), (.r .b), (.r (.i .i64)), .us 2, (.bx [(.r (.i .i64)), (.r (.i .i64)), (.r (.i .i64)), (.r (.i .i64))]), (.r (.i .i64)), .us 4, (.r (.ro 4)), (.r (.i .i64)), (.r (.i .i64)), .us 73]

def S83 (x0 x1 x2 x3 x4 : Int) (x5 : List R) (x6 x7 : Int) (x8 x9 xa xb xc xd xe xf : Bool) (xg : List R) (xh xi xj xk xl xm : Int) (xn : Bool) (xo xp xq xr xs xt : Int) (xu : List R) (xv xw : Int) : List T := (T.u :: T.u :: T.u :: T.u :: (T.bx [(T.r (R.i .i64 x0)), (T.r (R.i .i64 x1)), (T.r (R.i .i64 x2)), (T.r (R.i .i64 x3)), (T.r (R.i .i64 x4)), (T.r (R.ro 2 x5)), (T.r (R.i .i64 x6)), (T.r (R.i .i64 x7)), (T.r (R.b x8)), (T.r (R.b x9)), (T.r (R.b xa)), (T.r (R.b xb)), (T.r (R.b xc)), (T.r (R.b xd)), (T.r (R.b xe)), (T.r (R.b xf)), (T.r (R.ro 1 xg)), (T.r (R.i .i64 xh)), (T.r (R.i .i64 xi))]) :: (T.bx [(T.r (R.i .i64 xj)), (T.r (R.i .i64 xk)), (T.r (R.i .i64 xl)), (T.r (R.i .i64 xm))]) :: (T.r (R.b xn)) :: (T.r (R.i .i64 xo)) :: T.u :: T.u :: (T.bx [(T.r (R.i .i64 xp)), (T.r (R.i .i64 xq)), (T.r (R.i .i64 xr)), (T.r (R.i .i64 xs))]) :: (T.r (R.i .i64 xt)) :: T.u :: T.u :: T.u :: T.u :: (T.r (R.ro 4 xu)) :: (T.r (R.i .i64 xv)) :: (T.r (R.i .i64 xw)) :: T.u :: T.u :: T.u :: T.u :: T.u :: T.u :: T.u :: T.u :: T.u :: T.u :: T.u :: T.u :: T.u :: T.u :: T.u :: T.u :: T.u :: T.u :: T.u :: T.u :: T.u :: T.u :: T.u :: T.u :: T.u :: T.u :: T.u :: T.u :: T.u :: T.u :: T.u :: T.u :: T.u :: T.u :: T.u :: T.u :: T.u :: T.u :: T.u :: T.u :: T.u :: T.u :: T.u :: T.u :: T.u :: T.u :: T.u :: T.u :: T.u :: T.u :: T.u :: T.u :: T.u :: T.u :: T.u :: T.u :: T.u :: T.u :: T.u :: T.u :: T.u :: T.u :: T.u :: T.u :: T.u :: T.u :: T.u :: T.u :: T.u :: T.u :: T.u :: T.u :: T.u :: [])

def P84 : List PT := [.us 4, (.bx [(.r (.i .i64)), (.r (.i .i64)), (.r (.i .i64)), (.r (.i .i64)), (.r (.i .i64)), (.r (.ro 2)), (.r (.i .i64)), (.r (.i .i64)), (.r .b), (.r .b), (.r .b), (.r .b), (.r .b), (.r .b), (.r .b), (.r .b), (.r (.ro 1)), (.r (.i .i64)), (.r (.i .i64))]), (.bx [(.r (.i .i64)), (.r (.i .i64)), (.r (.i .i64)), (.r (.i .i64))]), .us 1, (.r (.i .i64)), .us 2, (.bx [(.r (.i .i64)), (.r (.i .i64)), (.r (.i .i64)), (.r (.i .i64))]), (.r (.i .i64)), .us 4, (.r (.ro 4)), (.r (.i .i64)), (.r (.i .i64)), .us 73]

def S84 (x0 x1 x2 x3 x4 : Int) (x5 : List R) (x6 x7 : Int) (x8 x9 xa xb xc xd xe xf : Bool) (xg : List R) (xh xi xj xk xl xm xn xo xp xq xr xs : Int) (xt : List R) (xu xv : Int) : List T := (T.u :: T.u :: T.u :: T.u :: (T.bx [(T.r (R.i .i64 x0)), (T.r (R.i .i64 x1)), (T.r (R.i .i64 x2)), (T.r (R.i .i64 x3)), (T.r (R.i .i64 x4)), (T.r (R.ro 2 x5)), (T.r (R.i .i64 x6)), (T.r (R.i .i64 x7)), (T.r (R.b x8)), (T.r (R.b x9)), (T.r (R.b xa)), (T.r (R.b xb)), (T.r (R.b xc)), (T.r (R.b xd)), (T.r (R.b xe)), (T.r (R.b xf)), (T.r (R.ro 1 xg)), (T.r (R.i .i64 xh)), (T.r (R.i .i64 xi))]) :: (T.bx [(T.r (R.i .i64 xj)), (T.r (R.i .i64 xk)), (T.r (R.i .i64 xl)), (T.r (R.i .i64 xm))]) :: T.u :: (T.r (R.i .i64 xn)) :: T.u :: T.u :: (T.bx [(T.r (R.i .i64 xo)), (T.r (R.i .i64 xp)), (T.r (R.i .i64 xq)), (T.r (R.i .i64 xr))]) :: (T.r (R.i .i64 xs)) :: T.u :: T.u :: T.u :: T.u :: (T.r (R.ro 4 xt)) :: (T.r (R.i .i64 xu)) :: (T.r (R.i .i64 xv)) :: T.u :: T.u :: T.u :: T.u :: T.u :: T.u :: T.u :: T.u :: T.u :: T.u :: T.u :: T.u :: T.u :: T.u :: T.u :: T.u :: T.u :: T.u :: T.u :: T.u :: T.u :: T.u :: T.u :: T.u :: T.u :: T.u :: T.u :: T.u :: T.u :: T.u :: T.u :: T.u :: T.u :: T.u :: T.u :: T.u :: T.u :: T.u :: T.u :: T.u :: T.u :: T.u :: T.u :: T.u :: T.u :: T.u :: T.u :: T.u :: T.u :: T.u :: T.u :: T.u :: T.u :: T.u :: T.u :: T.u :: T.u :: T.u :: T.u :: T.u :: T.u :: T.u :: T.u :: T.u :: T.u :: T.u :: T.u :: T.u :: T.u :: T.u :: T.u :: T.u :: T.u :: [])

def P85 : List PT := [.us 4, (.bx [(.r (.i .i64)), (.r (.i .i64)), (.r (.i .i64)), (.r (.i .i64)), (.r (.i .i64)), (.r (.ro 2)), (.r (.i .i64)), (.r (.i .i64)), (.r .b), (.r .b), (.r .b), (.r .b), (.r .b), (.r .b), (.r .b), (.r .b), (.r (.ro 1)), (.r (.i .i64)), (.r (.i .i64))]), (.bx [(.r (.i .i64)), (.r (.i .i64)), (.r (.i .i64)), (.r (.i .i64))]), .us 1, (.r (.i .i64)), .us 2, (.bx [(.r (.i .i64)), (.r (.i .i64)), (.r (.i .i64)), (.r (.i .i64))]), (.r (.i .i64)), (.bx [(.r (.i .i64)), (.r (.i .i64))]), .us 3, (.r (.ro 4)), (.r (.i .i64)), (.r (.i .i64)), .us 46, (.own true 1), (.r (.i .i64)), (.r (.i .i64)), .us 24]

noncomputable def M96_14t1 {β : Type} (l96_14t1_0 : (Q26 β) → (Q27 β) → Q28 β) (s : List T) : Option ((Ex → List T → Option β) → Option β) :=
  match gTs P85 (clean ((Hn 96).lp 14).1 s) [] with
  | some (.i x0 :: .i x1 :: .i x2 :: .i x3 :: .i x4 :: .l x5 :: .i x6 :: .i x7 :: .b x8 :: .b x9 :: .b xa :: .b xb :: .b xc :: .b xd :: .b xe :: .b xf :: .l xg :: .i xh :: .i xi :: .i xj :: .i xk :: .i xl :: .i xm :: .i xn :: .i xo :: .i xp :: .i xq :: .i xr :: .i xs :: .i xt :: .i xu :: .l xv :: .i xw :: .i xx :: .l xy :: .i xz :: .i x10 :: []) => some fun kk => l96_14t1_0 (fun x11 x12 x13 x14 x15 x16 x17 x18 x19 x1a x1b x1c x1d x1e x1f x1g x1h x1i x1j x1k x1l x1m x1n x1o x1p x1q x1r x1s x1t x1u x1v x1w x1x => kk Ex.rt (S83 x11 x12 x13 x14 x15 x16 x17 x18 x19 x1a x1b x1c x1d x1e x1f x1g x1h x1i x1j x1k x1l x1m x1n x1o x1p x1q x1r x1s x1t x1u x1v x1w x1x)) (fun x1y x1z x20 x21 x22 x23 x24 x25 x26 x27 x28 x29 x2a x2b x2c x2d x2e x2f x2g x2h x2i x2j x2k x2l x2m x2n x2o x2p x2q x2r x2s x2t => kk (Ex.ex 4) (S84 x1y x1z x20 x21 x22 x23 x24 x25 x26 x27 x28 x29 x2a x2b x2c x2d x2e x2f x2g x2h x2i x2j x2k x2l x2m x2n x2o x2p x2q x2r x2s x2t)) x0 x1 x2 x3 x4 x5 x6 x7 x8 x9 xa xb xc xd xe xf xg xh xi xj xk xl xm xn xo xp xq xr xs xt xu xv xw xx xy xz x10
  | _ => none

theorem e96_14t1_0 {β : Type} (A : Pr) (B : Pk) (f120_0 : Int → Int → Int → Int → Int → Int → (Int → Int → Int → Int → Option β) → Option β) (f117_0 : Int → Int → Int → Int → Int → Int → (Int → Option β) → Option β) (l96_14t1_0 : (Q26 β) → (Q27 β) → Q28 β) (x0 x1 x2 x3 x4 : Int) (x5 : List R) (x6 x7 : Int) (x8 x9 xa xb xc xd xe xf : Bool) (xg : List R) (xh xi xj xk xl xm xn xo xp xq xr xs xt xu : Int) (xv : List R) (xw xx : Int) (xy : List R) (xz x10 : Int) (kk : Ex → List T → Option β) :
    uTs P85 (.i x0 :: .i x1 :: .i x2 :: .i x3 :: .i x4 :: .l x5 :: .i x6 :: .i x7 :: .b x8 :: .b x9 :: .b xa :: .b xb :: .b xc :: .b xd :: .b xe :: .b xf :: .l xg :: .i xh :: .i xi :: .i xj :: .i xk :: .i xl :: .i xm :: .i xn :: .i xo :: .i xp :: .i xq :: .i xr :: .i xs :: .i xt :: .i xu :: .l xv :: .i xw :: .i xx :: .l xy :: .i xz :: .i x10 :: []) (fun s _ => evK (mkK Try.prog A B [(120, M120_0 f120_0), (117, M117_0 f117_0)] [] (Hn 96).pt []) X96_14 s (fun e s' => match e with
      | .nm => (match M96_14t1 l96_14t1_0 s' with | some h => h kk | none => none)
      | .ex m => kk (.ex m) (clean ((Hn 96).lp (firstReg X96_14)).2 s')
      | .rt => kk .rt (clean ((Hn 96).lp (firstReg X96_14)).2 s'))) = GL96_14t1_0 A B f120_0 f117_0 l96_14t1_0 (fun x11 x12 x13 x14 x15 x16 x17 x18 x19 x1a x1b x1c x1d x1e x1f x1g x1h x1i x1j x1k x1l x1m x1n x1o x1p x1q x1r x1s x1t x1u x1v x1w x1x => kk Ex.rt (S83 x11 x12 x13 x14 x15 x16 x17 x18 x19 x1a x1b x1c x1d x1e x1f x1g x1h x1i x1j x1k x1l x1m x1n x1o x1p x1q x1r x1s x1t x1u x1v x1w x1x)) (fun x1y x1z x20 x21 x22 x23 x24 x25 x26 x27 x28 x29 x2a x2b x2c x2d x2e x2f x2g x2h x2i x2j x2k x2l x2m x2n x2o x2p x2q x2r x2s x2t => kk (Ex.ex 4) (S84 x1y x1z x20 x21 x22 x23 x24 x25 x26 x27 x28 x29 x2a x2b x2c x2d x2e x2f x2g x2h x2i x2j x2k x2l x2m x2n x2o x2p x2q x2r x2s x2t)) x0 x1 x2 x3 x4 x5 x6 x7 x8 x9 xa xb xc xd xe xf xg xh xi xj xk xl xm xn xo xp xq xr xs xt xu xv xw xx xy xz x10 := by kernel_rfl

theorem ol96_14t1 {β : Type} (N : Nat) : ∀ n, SndL (β := β) Try.prog Hn (Hn 96) X96_14 (M96_14t1 (L96_14t1_0 re rk N n))
  | 0 => by
    intro s h kk r ha hr
    unfold M96_14t1 at ha
    split at ha
    · cases ha; cases hr
    · cases ha
  | n + 1 => by
    have ih := ol96_14t1 (β := β) N n
    intro s h kk r ha hr
    unfold M96_14t1 at ha
    split at ha
    · rename_i hs
      cases ha
      have hk := via_pat hs ((e96_14t1_0 re rk (F120_0 re rk N) (F117_0 re rk N) (L96_14t1_0 re rk N n) _ _ _ _ _ _ _ _ _ _ _ _ _ _ _ _ _ _ _ _ _ _ _ _ _ _ _ _ _ _ _ _ _ _ _ _ _ kk).trans hr)
      exact round_ok (show SndAll Try.prog Hn [(120, M120_0 (F120_0 re rk N)), (117, M117_0 (F117_0 re rk N))] from ⟨o120_0 N, o117_0 N, trivial⟩) (spots := []) (by kernel_rfl) trivial ih (hd := clean ((Hn 96).lp 14).1 s) (by rw [i96_14]) hk
    · cases ha

def GL96_7t1_0 {β : Type} (A : Pr) (B : Pk) (f116_1 : Int → Int → Int → Int → Int → List R → Int → Int → Bool → Bool → Bool → Bool → Bool → Bool → Bool → Bool → List R → Int → Int → Int → (Int → Int → Option β) → Option β) (f118_0 : Int → Int → Int → Int → Int → Int → (Int → Int → Int → Int → Option β) → Option β) (f117_0 : Int → Int → Int → Int → Int → Int → (Int → Option β) → Option β) (f119_0 : Int → Int → (List R → Option β) → Option β) (l96_14t1_0 : (Q26 β) → (Q27 β) → Q28 β) (l96_7t1_0 : (Q29 β) → (Q30 β) → Q27 β) (k0 : Q29 β) (k1 : Q30 β) (x0 x1 x2 x3 x4 : Int) (x5 : List R) (x6 x7 : Int) (x8 x9 xa xb xc xd xe xf : Bool) (xg : List R) (xh xi xj xk xl xm xn xo xp xq xr xs : Int) (xt : List R) (xu xv : Int) : Option β :=
    match (A.cm .leq xs x1) with
    | true => (f116_1 x0 x1 x2 x3 x4 x5 x6 x7 x8 x9 xa xb xc xd xe xf xg xh xi xs (fun xw xx =>
      f118_0 xo xp xq xr x1 xs (fun xy xz x10 x11 =>
        f117_0 xy xz x10 x11 xw xx (fun x12 =>
          match (A.cm .gtr xs 0) with
            | true => (f119_0 x1 xs (fun x13 =>
              l96_14t1_0 (fun x14 x15 x16 x17 x18 x19 x1a x1b x1c x1d x1e x1f x1g x1h x1i x1j x1k x1l x1m x1n x1o x1p x1q x1r x1s x1t x1u x1v x1w x1x x1y x1z x20 =>
                k0 x14 x15 x16 x17 x18 x19 x1a x1b x1c x1d x1e x1f x1g x1h x1i x1j x1k x1l x1m x1n x1o x1p x1q x1r x1s x1y x1z x20) (fun x21 x22 x23 x24 x25 x26 x27 x28 x29 x2a x2b x2c x2d x2e x2f x2g x2h x2i x2j x2k x2l x2m x2n x2o x2p x2q x2r x2s x2t x2u x2v x2w =>
                l96_7t1_0 k0 k1 x21 x22 x23 x24 x25 x26 x27 x28 x29 x2a x2b x2c x2d x2e x2f x2g x2h x2i x2j x2k x2l x2m x2n x2o x2p x2q x2r x2s (A.ar .add .i64 x2t 1) x2u x2v x2w) x0 x1 x2 x3 x4 x5 x6 x7 x8 x9 xa xb xc xd xe xf xg xh xi xj xk xl xm (A.ar .add .i64 xn (A.ar .mul .i64 x12 x7)) xo xp xq xr xs (A.ar .sub .i64 xw 1) (A.ar .sub .i64 xx 1) xt xu xv x13 (A.on (A.len x13)) 0))
            | false => (f119_0 x1 xs (fun x2x =>
              l96_14t1_0 (fun x2y x2z x30 x31 x32 x33 x34 x35 x36 x37 x38 x39 x3a x3b x3c x3d x3e x3f x3g x3h x3i x3j x3k x3l x3m x3n x3o x3p x3q x3r x3s x3t x3u =>
                k0 x2y x2z x30 x31 x32 x33 x34 x35 x36 x37 x38 x39 x3a x3b x3c x3d x3e x3f x3g x3h x3i x3j x3k x3l x3m x3s x3t x3u) (fun x3v x3w x3x x3y x3z x40 x41 x42 x43 x44 x45 x46 x47 x48 x49 x4a x4b x4c x4d x4e x4f x4g x4h x4i x4j x4k x4l x4m x4n x4o x4p x4q =>
                l96_7t1_0 k0 k1 x3v x3w x3x x3y x3z x40 x41 x42 x43 x44 x45 x46 x47 x48 x49 x4a x4b x4c x4d x4e x4f x4g x4h x4i x4j x4k x4l x4m (A.ar .add .i64 x4n 1) x4o x4p x4q) x0 x1 x2 x3 x4 x5 x6 x7 x8 x9 xa xb xc xd xe xf xg xh xi xj xk xl xm (A.ar .add .i64 xn (A.ar .mul .i64 x12 x7)) xo xp xq xr xs xw xx xt xu xv x2x (A.on (A.len x2x)) 0))))))
    | false => (k1 x0 x1 x2 x3 x4 x5 x6 x7 x8 x9 xa xb xc xd xe xf xg xh xi xj xk xl xm xn xt xu xv)

def L96_7t1_0 {β : Type} (A : Pr) (B : Pk) (N : Nat) : Nat → (Q29 β) → (Q30 β) → Q27 β
  | 0, _, _, _, _, _, _, _, _, _, _, _, _, _, _, _, _, _, _, _, _, _, _, _, _, _, _, _, _, _, _, _, _, _, _ => none
  | n + 1, k0, k1, x0, x1, x2, x3, x4, x5, x6, x7, x8, x9, xa, xb, xc, xd, xe, xf, xg, xh, xi, xj, xk, xl, xm, xn, xo, xp, xq, xr, xs, xt, xu, xv =>
    GL96_7t1_0 A B (F116_1 A B N) (F118_0 A B N) (F117_0 A B N) (F119_0 A B N) (L96_14t1_0 A B N N) (L96_7t1_0 A B N n) k0 k1 x0 x1 x2 x3 x4 x5 x6 x7 x8 x9 xa xb xc xd xe xf xg xh xi xj xk xl xm xn xo xp xq xr xs xt xu xv

def P86 : List PT := [.us 4, (.bx [(.r (.i .i64)), (.r (.i .i64)), (.r (.i .i64)), (.r (.i .i64)), (.r (.i .i64)), (.r (.ro 2)), (.r (.i .i64)), (.r (.i .i64)), (.r .b), (.r .b), (.r .b), (.r .b), (.r .b), (.r .b), (.r .b), (.r .b), (.r (.ro 1)), (.r (.i .i64)), (.r (.i .i64))]), (.bx [(.r (.i .i64)), (.r (.i .i64)), (.r (.i .i64)), (.r (.i .i64))]), (.r .b), (.r (.i .i64)), .us 8, (.r (.ro 4)), (.r (.i .i64)), (.r (.i .i64)), .us 73]

def S86 (x0 x1 x2 x3 x4 : Int) (x5 : List R) (x6 x7 : Int) (x8 x9 xa xb xc xd xe xf : Bool) (xg : List R) (xh xi xj xk xl xm : Int) (xn : Bool) (xo : Int) (xp : List R) (xq xr : Int) : List T := (T.u :: T.u :: T.u :: T.u :: (T.bx [(T.r (R.i .i64 x0)), (T.r (R.i .i64 x1)), (T.r (R.i .i64 x2)), (T.r (R.i .i64 x3)), (T.r (R.i .i64 x4)), (T.r (R.ro 2 x5)), (T.r (R.i .i64 x6)), (T.r (R.i .i64 x7)), (T.r (R.b x8)), (T.r (R.b x9)), (T.r (R.b xa)), (T.r (R.b xb)), (T.r (R.b xc)), (T.r (R.b xd)), (T.r (R.b xe)), (T.r (R.b xf)), (T.r (R.ro 1 xg)), (T.r (R.i .i64 xh)), (T.r (R.i .i64 xi))]) :: (T.bx [(T.r (R.i .i64 xj)), (T.r (R.i .i64 xk)), (T.r (R.i .i64 xl)), (T.r (R.i .i64 xm))]) :: (T.r (R.b xn)) :: (T.r (R.i .i64 xo)) :: T.u :: T.u :: T.u :: T.u :: T.u :: T.u :: T.u :: T.u :: (T.r (R.ro 4 xp)) :: (T.r (R.i .i64 xq)) :: (T.r (R.i .i64 xr)) :: T.u :: T.u :: T.u :: T.u :: T.u :: T.u :: T.u :: T.u :: T.u :: T.u :: T.u :: T.u :: T.u :: T.u :: T.u :: T.u :: T.u :: T.u :: T.u :: T.u :: T.u :: T.u :: T.u :: T.u :: T.u :: T.u :: T.u :: T.u :: T.u :: T.u :: T.u :: T.u :: T.u :: T.u :: T.u :: T.u :: T.u :: T.u :: T.u :: T.u :: T.u :: T.u :: T.u :: T.u :: T.u :: T.u :: T.u :: T.u :: T.u :: T.u :: T.u :: T.u :: T.u :: T.u :: T.u :: T.u :: T.u :: T.u :: T.u :: T.u :: T.u :: T.u :: T.u :: T.u :: T.u :: T.u :: T.u :: T.u :: T.u :: T.u :: T.u :: T.u :: T.u :: [])

def P87 : List PT := [.us 4, (.bx [(.r (.i .i64)), (.r (.i .i64)), (.r (.i .i64)), (.r (.i .i64)), (.r (.i .i64)), (.r (.ro 2)), (.r (.i .i64)), (.r (.i .i64)), (.r .b), (.r .b), (.r .b), (.r .b), (.r .b), (.r .b), (.r .b), (.r .b), (.r (.ro 1)), (.r (.i .i64)), (.r (.i .i64))]), (.bx [(.r (.i .i64)), (.r (.i .i64)), (.r (.i .i64)), (.r (.i .i64))]), .us 1, (.r (.i .i64)), .us 8, (.r (.ro 4)), (.r (.i .i64)), (.r (.i .i64)), .us 73]

def S87 (x0 x1 x2 x3 x4 : Int) (x5 : List R) (x6 x7 : Int) (x8 x9 xa xb xc xd xe xf : Bool) (xg : List R) (xh xi xj xk xl xm xn : Int) (xo : List R) (xp xq : Int) : List T := (T.u :: T.u :: T.u :: T.u :: (T.bx [(T.r (R.i .i64 x0)), (T.r (R.i .i64 x1)), (T.r (R.i .i64 x2)), (T.r (R.i .i64 x3)), (T.r (R.i .i64 x4)), (T.r (R.ro 2 x5)), (T.r (R.i .i64 x6)), (T.r (R.i .i64 x7)), (T.r (R.b x8)), (T.r (R.b x9)), (T.r (R.b xa)), (T.r (R.b xb)), (T.r (R.b xc)), (T.r (R.b xd)), (T.r (R.b xe)), (T.r (R.b xf)), (T.r (R.ro 1 xg)), (T.r (R.i .i64 xh)), (T.r (R.i .i64 xi))]) :: (T.bx [(T.r (R.i .i64 xj)), (T.r (R.i .i64 xk)), (T.r (R.i .i64 xl)), (T.r (R.i .i64 xm))]) :: T.u :: (T.r (R.i .i64 xn)) :: T.u :: T.u :: T.u :: T.u :: T.u :: T.u :: T.u :: T.u :: (T.r (R.ro 4 xo)) :: (T.r (R.i .i64 xp)) :: (T.r (R.i .i64 xq)) :: T.u :: T.u :: T.u :: T.u :: T.u :: T.u :: T.u :: T.u :: T.u :: T.u :: T.u :: T.u :: T.u :: T.u :: T.u :: T.u :: T.u :: T.u :: T.u :: T.u :: T.u :: T.u :: T.u :: T.u :: T.u :: T.u :: T.u :: T.u :: T.u :: T.u :: T.u :: T.u :: T.u :: T.u :: T.u :: T.u :: T.u :: T.u :: T.u :: T.u :: T.u :: T.u :: T.u :: T.u :: T.u :: T.u :: T.u :: T.u :: T.u :: T.u :: T.u :: T.u :: T.u :: T.u :: T.u :: T.u :: T.u :: T.u :: T.u :: T.u :: T.u :: T.u :: T.u :: T.u :: T.u :: T.u :: T.u :: T.u :: T.u :: T.u :: T.u :: T.u :: T.u :: [])

noncomputable def M96_7t1 {β : Type} (l96_7t1_0 : (Q29 β) → (Q30 β) → Q27 β) (s : List T) : Option ((Ex → List T → Option β) → Option β) :=
  match gTs P84 (clean ((Hn 96).lp 7).1 s) [] with
  | some (.i x0 :: .i x1 :: .i x2 :: .i x3 :: .i x4 :: .l x5 :: .i x6 :: .i x7 :: .b x8 :: .b x9 :: .b xa :: .b xb :: .b xc :: .b xd :: .b xe :: .b xf :: .l xg :: .i xh :: .i xi :: .i xj :: .i xk :: .i xl :: .i xm :: .i xn :: .i xo :: .i xp :: .i xq :: .i xr :: .i xs :: .l xt :: .i xu :: .i xv :: []) => some fun kk => l96_7t1_0 (fun xw xx xy xz x10 x11 x12 x13 x14 x15 x16 x17 x18 x19 x1a x1b x1c x1d x1e x1f x1g x1h x1i x1j x1k x1l x1m x1n => kk Ex.rt (S86 xw xx xy xz x10 x11 x12 x13 x14 x15 x16 x17 x18 x19 x1a x1b x1c x1d x1e x1f x1g x1h x1i x1j x1k x1l x1m x1n)) (fun x1o x1p x1q x1r x1s x1t x1u x1v x1w x1x x1y x1z x20 x21 x22 x23 x24 x25 x26 x27 x28 x29 x2a x2b x2c x2d x2e => kk (Ex.ex 2) (S87 x1o x1p x1q x1r x1s x1t x1u x1v x1w x1x x1y x1z x20 x21 x22 x23 x24 x25 x26 x27 x28 x29 x2a x2b x2c x2d x2e)) x0 x1 x2 x3 x4 x5 x6 x7 x8 x9 xa xb xc xd xe xf xg xh xi xj xk xl xm xn xo xp xq xr xs xt xu xv
  | _ => none

theorem e96_7t1_0 {β : Type} (A : Pr) (B : Pk) (f116_1 : Int → Int → Int → Int → Int → List R → Int → Int → Bool → Bool → Bool → Bool → Bool → Bool → Bool → Bool → List R → Int → Int → Int → (Int → Int → Option β) → Option β) (f118_0 : Int → Int → Int → Int → Int → Int → (Int → Int → Int → Int → Option β) → Option β) (f117_0 : Int → Int → Int → Int → Int → Int → (Int → Option β) → Option β) (f119_0 : Int → Int → (List R → Option β) → Option β) (l96_14t1_0 : (Q26 β) → (Q27 β) → Q28 β) (l96_7t1_0 : (Q29 β) → (Q30 β) → Q27 β) (x0 x1 x2 x3 x4 : Int) (x5 : List R) (x6 x7 : Int) (x8 x9 xa xb xc xd xe xf : Bool) (xg : List R) (xh xi xj xk xl xm xn xo xp xq xr xs : Int) (xt : List R) (xu xv : Int) (kk : Ex → List T → Option β) :
    uTs P84 (.i x0 :: .i x1 :: .i x2 :: .i x3 :: .i x4 :: .l x5 :: .i x6 :: .i x7 :: .b x8 :: .b x9 :: .b xa :: .b xb :: .b xc :: .b xd :: .b xe :: .b xf :: .l xg :: .i xh :: .i xi :: .i xj :: .i xk :: .i xl :: .i xm :: .i xn :: .i xo :: .i xp :: .i xq :: .i xr :: .i xs :: .l xt :: .i xu :: .i xv :: []) (fun s _ => evK (mkK Try.prog A B [(116, M116_1 f116_1), (118, M118_0 f118_0), (117, M117_0 f117_0), (119, M119_0 f119_0)] [(14, M96_14t1 l96_14t1_0)] (Hn 96).pt []) X96_7 s (fun e s' => match e with
      | .nm => (match M96_7t1 l96_7t1_0 s' with | some h => h kk | none => none)
      | .ex m => kk (.ex m) (clean ((Hn 96).lp (firstReg X96_7)).2 s')
      | .rt => kk .rt (clean ((Hn 96).lp (firstReg X96_7)).2 s'))) = GL96_7t1_0 A B f116_1 f118_0 f117_0 f119_0 l96_14t1_0 l96_7t1_0 (fun xw xx xy xz x10 x11 x12 x13 x14 x15 x16 x17 x18 x19 x1a x1b x1c x1d x1e x1f x1g x1h x1i x1j x1k x1l x1m x1n => kk Ex.rt (S86 xw xx xy xz x10 x11 x12 x13 x14 x15 x16 x17 x18 x19 x1a x1b x1c x1d x1e x1f x1g x1h x1i x1j x1k x1l x1m x1n)) (fun x1o x1p x1q x1r x1s x1t x1u x1v x1w x1x x1y x1z x20 x21 x22 x23 x24 x25 x26 x27 x28 x29 x2a x2b x2c x2d x2e => kk (Ex.ex 2) (S87 x1o x1p x1q x1r x1s x1t x1u x1v x1w x1x x1y x1z x20 x21 x22 x23 x24 x25 x26 x27 x28 x29 x2a x2b x2c x2d x2e)) x0 x1 x2 x3 x4 x5 x6 x7 x8 x9 xa xb xc xd xe xf xg xh xi xj xk xl xm xn xo xp xq xr xs xt xu xv := by kernel_rfl

theorem ol96_7t1 {β : Type} (N : Nat) : ∀ n, SndL (β := β) Try.prog Hn (Hn 96) X96_7 (M96_7t1 (L96_7t1_0 re rk N n))
  | 0 => by
    intro s h kk r ha hr
    unfold M96_7t1 at ha
    split at ha
    · cases ha; cases hr
    · cases ha
  | n + 1 => by
    have ih := ol96_7t1 (β := β) N n
    intro s h kk r ha hr
    unfold M96_7t1 at ha
    split at ha
    · rename_i hs
      cases ha
      have hk := via_pat hs ((e96_7t1_0 re rk (F116_1 re rk N) (F118_0 re rk N) (F117_0 re rk N) (F119_0 re rk N) (L96_14t1_0 re rk N N) (L96_7t1_0 re rk N n) _ _ _ _ _ _ _ _ _ _ _ _ _ _ _ _ _ _ _ _ _ _ _ _ _ _ _ _ _ _ _ _ kk).trans hr)
      exact round_ok (show SndAll Try.prog Hn [(116, M116_1 (F116_1 re rk N)), (118, M118_0 (F118_0 re rk N)), (117, M117_0 (F117_0 re rk N)), (119, M119_0 (F119_0 re rk N))] from ⟨o116_1 N, o118_0 N, o117_0 N, o119_0 N, trivial⟩) (spots := [.lp X96_14]) (by kernel_rfl) ⟨cut_lp (id := 14) i96_14 (ol96_14t1 N N) (fun s kk => by kernel_rfl), trivial⟩ ih (hd := clean ((Hn 96).lp 7).1 s) (by rw [i96_7]) hk
    · cases ha

def GL96_3t1_0 {β : Type} (A : Pr) (B : Pk) (f47_0 : Int → Int → Int → Int → Int → Int → (Int → Int → Int → Int → Option β) → Option β) (l96_7t1_0 : (Q29 β) → (Q30 β) → Q27 β) (l96_3t1_0 : (Bool → Int → Option β) → (Int → Option β) → Q30 β) (k0 : Bool → Int → Option β) (k1 : Int → Option β) (x0 x1 x2 x3 x4 : Int) (x5 : List R) (x6 x7 : Int) (x8 x9 xa xb xc xd xe xf : Bool) (xg : List R) (xh xi xj xk xl xm xn : Int) (xo : List R) (xp xq : Int) : Option β :=
    match (A.cm .lss xq xp) with
    | true => (match (A.ix xq (A.len xo)) with
      | some xr => (match (B.okE [(Sh.i .i64), Sh.b, (Sh.i .i64), (Sh.i .i64)] true xo xr) with
        | true => (f47_0 xj xk xl xm (B.ci xo xr 2) (B.ci xo xr 3) (fun xs xt xu xv =>
          l96_7t1_0 (fun xw xx xy xz x10 x11 x12 x13 x14 x15 x16 x17 x18 x19 x1a x1b x1c x1d x1e x1f x1g x1h x1i x1j x1k x1l x1m x1n =>
            k0 x1j x1k) (fun x1o x1p x1q x1r x1s x1t x1u x1v x1w x1x x1y x1z x20 x21 x22 x23 x24 x25 x26 x27 x28 x29 x2a x2b x2c x2d x2e =>
            l96_3t1_0 k0 k1 x1o x1p x1q x1r x1s x1t x1u x1v x1w x1x x1y x1z x20 x21 x22 x23 x24 x25 x26 x27 x28 x29 x2a x2b x2c x2d (A.ar .add .i64 x2e 1)) x0 x1 x2 x3 x4 x5 x6 x7 x8 x9 xa xb xc xd xe xf xg xh xi xj xk xl xm xn xs xt xu xv 0 xo xp xq))
        | false => none)
      | none => none)
    | false => (k1 xn)

def L96_3t1_0 {β : Type} (A : Pr) (B : Pk) (N : Nat) : Nat → (Bool → Int → Option β) → (Int → Option β) → Q30 β
  | 0, _, _, _, _, _, _, _, _, _, _, _, _, _, _, _, _, _, _, _, _, _, _, _, _, _, _, _, _, _ => none
  | n + 1, k0, k1, x0, x1, x2, x3, x4, x5, x6, x7, x8, x9, xa, xb, xc, xd, xe, xf, xg, xh, xi, xj, xk, xl, xm, xn, xo, xp, xq =>
    GL96_3t1_0 A B (F47_0 A B N) (L96_7t1_0 A B N N) (L96_3t1_0 A B N n) k0 k1 x0 x1 x2 x3 x4 x5 x6 x7 x8 x9 xa xb xc xd xe xf xg xh xi xj xk xl xm xn xo xp xq

noncomputable def M96_3t1 {β : Type} (l96_3t1_0 : (Bool → Int → Option β) → (Int → Option β) → Q30 β) (s : List T) : Option ((Ex → List T → Option β) → Option β) :=
  match gTs P87 (clean ((Hn 96).lp 3).1 s) [] with
  | some [.i x0, .i x1, .i x2, .i x3, .i x4, .l x5, .i x6, .i x7, .b x8, .b x9, .b xa, .b xb, .b xc, .b xd, .b xe, .b xf, .l xg, .i xh, .i xi, .i xj, .i xk, .i xl, .i xm, .i xn, .l xo, .i xp, .i xq] => some fun kk => l96_3t1_0 (fun xr xs => kk Ex.rt (S69 xr xs)) (fun xt => kk (Ex.ex 0) (S70 xt)) x0 x1 x2 x3 x4 x5 x6 x7 x8 x9 xa xb xc xd xe xf xg xh xi xj xk xl xm xn xo xp xq
  | _ => none

theorem e96_3t1_0 {β : Type} (A : Pr) (B : Pk) (f47_0 : Int → Int → Int → Int → Int → Int → (Int → Int → Int → Int → Option β) → Option β) (l96_7t1_0 : (Q29 β) → (Q30 β) → Q27 β) (l96_3t1_0 : (Bool → Int → Option β) → (Int → Option β) → Q30 β) (x0 x1 x2 x3 x4 : Int) (x5 : List R) (x6 x7 : Int) (x8 x9 xa xb xc xd xe xf : Bool) (xg : List R) (xh xi xj xk xl xm xn : Int) (xo : List R) (xp xq : Int) (kk : Ex → List T → Option β) :
    uTs P87 [.i x0, .i x1, .i x2, .i x3, .i x4, .l x5, .i x6, .i x7, .b x8, .b x9, .b xa, .b xb, .b xc, .b xd, .b xe, .b xf, .l xg, .i xh, .i xi, .i xj, .i xk, .i xl, .i xm, .i xn, .l xo, .i xp, .i xq] (fun s _ => evK (mkK Try.prog A B [(47, M47_0 f47_0)] [(7, M96_7t1 l96_7t1_0)] (Hn 96).pt []) X96_3 s (fun e s' => match e with
      | .nm => (match M96_3t1 l96_3t1_0 s' with | some h => h kk | none => none)
      | .ex m => kk (.ex m) (clean ((Hn 96).lp (firstReg X96_3)).2 s')
      | .rt => kk .rt (clean ((Hn 96).lp (firstReg X96_3)).2 s'))) = GL96_3t1_0 A B f47_0 l96_7t1_0 l96_3t1_0 (fun xr xs => kk Ex.rt (S69 xr xs)) (fun xt => kk (Ex.ex 0) (S70 xt)) x0 x1 x2 x3 x4 x5 x6 x7 x8 x9 xa xb xc xd xe xf xg xh xi xj xk xl xm xn xo xp xq := by kernel_rfl

theorem ol96_3t1 {β : Type} (N : Nat) : ∀ n, SndL (β := β) Try.prog Hn (Hn 96) X96_3 (M96_3t1 (L96_3t1_0 re rk N n))
  | 0 => by
    intro s h kk r ha hr
    unfold M96_3t1 at ha
    split at ha
    · cases ha; cases hr
    · cases ha
  | n + 1 => by
    have ih := ol96_3t1 (β := β) N n
    intro s h kk r ha hr
    unfold M96_3t1 at ha
    split at ha
    · rename_i hs
      cases ha
      have hk := via_pat hs ((e96_3t1_0 re rk (F47_0 re rk N) (L96_7t1_0 re rk N N) (L96_3t1_0 re rk N n) _ _ _ _ _ _ _ _ _ _ _ _ _ _ _ _ _ _ _ _ _ _ _ _ _ _ _ kk).trans hr)
      exact round_ok (show SndAll Try.prog Hn [(47, M47_0 (F47_0 re rk N))] from ⟨o47_0 N, trivial⟩) (spots := [.lp X96_7]) (by kernel_rfl) ⟨cut_lp (id := 7) i96_7 (ol96_7t1 N N) (fun s kk => by kernel_rfl), trivial⟩ ih (hd := clean ((Hn 96).lp 3).1 s) (by rw [i96_3]) hk
    · cases ha

def G96_1 {β : Type} (A : Pr) (B : Pk) (l96_3t1_0 : (Bool → Int → Option β) → (Int → Option β) → Q30 β) (x0 x1 x2 x3 x4 x5 : Int) (x6 : List R) (x7 x8 x9 xa xb : Int) (xc : List R) (xd xe : Int) (xf xg xh xi xj xk xl xm : Bool) (xn : List R) (xo xp xq xr xs xt : Int) (k0 : Bool → Option β) : Option β :=
    l96_3t1_0 (fun xu xv =>
    k0 xu) (fun xw =>
    k0 (A.cm .leq xw 65536)) x7 x8 x9 xa xb xc xd xe xf xg xh xi xj xk xl xm xn xo xp xq xr xs xt 0 x6 (A.on (A.len x6)) 0

def F96_1 {β : Type} (A : Pr) (B : Pk) (N : Nat) (x0 x1 x2 x3 x4 x5 : Int) (x6 : List R) (x7 x8 x9 xa xb : Int) (xc : List R) (xd xe : Int) (xf xg xh xi xj xk xl xm : Bool) (xn : List R) (xo xp xq xr xs xt : Int) (k0 : Bool → Option β) : Option β :=
  G96_1 A B (L96_3t1_0 A B N N) x0 x1 x2 x3 x4 x5 x6 x7 x8 x9 xa xb xc xd xe xf xg xh xi xj xk xl xm xn xo xp xq xr xs xt k0

def M96_1 {β : Type} (f96_1 : Int → Int → Int → Int → Int → Int → List R → Int → Int → Int → Int → Int → List R → Int → Int → Bool → Bool → Bool → Bool → Bool → Bool → Bool → Bool → List R → Int → Int → Int → Int → Int → Int → (Bool → Option β) → Option β) (a : List T) : Option ((T → List (List T) → Option β) → Option β) :=
  match gTs P29 a [] with
  | some (.i x0 :: .i x1 :: .i x2 :: .i x3 :: .i x4 :: .i x5 :: .l x6 :: .i x7 :: .i x8 :: .i x9 :: .i xa :: .i xb :: .l xc :: .i xd :: .i xe :: .b xf :: .b xg :: .b xh :: .b xi :: .b xj :: .b xk :: .b xl :: .b xm :: .l xn :: .i xo :: .i xp :: .i xq :: .i xr :: .i xs :: .i xt :: []) => some fun kk => f96_1 x0 x1 x2 x3 x4 x5 x6 x7 x8 x9 xa xb xc xd xe xf xg xh xi xj xk xl xm xn xo xp xq xr xs xt (fun xu => kk (T.r (R.b xu)) [])
  | _ => none

theorem e96_1 {β : Type} (A : Pr) (B : Pk) (l96_3t1_0 : (Bool → Int → Option β) → (Int → Option β) → Q30 β) (x0 x1 x2 x3 x4 x5 : Int) (x6 : List R) (x7 x8 x9 xa xb : Int) (xc : List R) (xd xe : Int) (xf xg xh xi xj xk xl xm : Bool) (xn : List R) (xo xp xq xr xs xt : Int) (kk : T → List (List T) → Option β) :
    uTs P29 (.i x0 :: .i x1 :: .i x2 :: .i x3 :: .i x4 :: .i x5 :: .l x6 :: .i x7 :: .i x8 :: .i x9 :: .i xa :: .i xb :: .l xc :: .i xd :: .i xe :: .b xf :: .b xg :: .b xh :: .b xi :: .b xj :: .b xk :: .b xl :: .b xm :: .l xn :: .i xo :: .i xp :: .i xq :: .i xr :: .i xs :: .i xt :: []) (fun a _ => bodyK (mkK Try.prog A B [] [(3, M96_3t1 l96_3t1_0)] (Hn 96).pt []) Try.f96 a kk) = G96_1 A B l96_3t1_0 x0 x1 x2 x3 x4 x5 x6 x7 x8 x9 xa xb xc xd xe xf xg xh xi xj xk xl xm xn xo xp xq xr xs xt (fun xu => kk (T.r (R.b xu)) []) := by kernel_rfl

theorem o96_1 {β : Type} (N : Nat) : Snd (β := β) Try.prog Hn 96 (M96_1 (F96_1 re rk N)) := by
  intro a h kk r ha hr
  unfold M96_1 at ha
  split at ha
  · rename_i hs
    cases ha
    have hk := via_pat hs ((e96_1 re rk (L96_3t1_0 re rk N N) _ _ _ _ _ _ _ _ _ _ _ _ _ _ _ _ _ _ _ _ _ _ _ _ _ _ _ _ _ _ kk).trans hr)
    exact fn_ok (f := 96) (fn := Try.f96) (H := Hn) (by kernel_rfl) (show SndAll Try.prog Hn [] from trivial) (spots := [.lp X96_3]) (by kernel_rfl) ⟨cut_lp (id := 3) i96_3 (ol96_3t1 N N) (fun s kk => by kernel_rfl), trivial⟩ hk
  · cases ha

def GL59_9t1_0 {β : Type} (A : Pr) (B : Pk) (f96_1 : Int → Int → Int → Int → Int → Int → List R → Int → Int → Int → Int → Int → List R → Int → Int → Bool → Bool → Bool → Bool → Bool → Bool → Bool → Bool → List R → Int → Int → Int → Int → Int → Int → (Bool → Option β) → Option β) (l59_9t1_0 : (Int → Option β) → (Option β) → Q25 β) (k0 : Int → Option β) (k1 : Option β) (x0 x1 x2 x3 x4 x5 : Int) (x6 : List R) (x7 x8 x9 xa xb : Int) (xc : List R) (xd xe : Int) (xf xg xh xi xj xk xl xm : Bool) (xn : List R) (xo xp : Int) (xq : List R) (xr xs : Int) : Option β :=
    match (A.cm .lss xs xr) with
    | true => (match (A.ix xs (A.len xq)) with
      | some xt => (match (B.okC [(Sh.i .i64), (Sh.i .i64), (Sh.i .i64), (Sh.i .i64)] xq xt 0) with
        | true => (f96_1 x0 x1 x2 x3 x4 x5 x6 x7 x8 x9 xa xb xc xd xe xf xg xh xi xj xk xl xm xn xo xp (B.ci xq xt 0) (B.ci xq xt 1) (B.ci xq xt 2) (B.ci xq xt 3) (fun xu =>
          match (A.bn xu) with
            | true => (k0 5)
            | false => (l59_9t1_0 k0 k1 x0 x1 x2 x3 x4 x5 x6 x7 x8 x9 xa xb xc xd xe xf xg xh xi xj xk xl xm xn xo xp xq xr (A.ar .add .i64 xs 1))))
        | false => none)
      | none => none)
    | false => k1

def L59_9t1_0 {β : Type} (A : Pr) (B : Pk) (N : Nat) : Nat → (Int → Option β) → (Option β) → Q25 β
  | 0, _, _, _, _, _, _, _, _, _, _, _, _, _, _, _, _, _, _, _, _, _, _, _, _, _, _, _, _, _, _, _ => none
  | n + 1, k0, k1, x0, x1, x2, x3, x4, x5, x6, x7, x8, x9, xa, xb, xc, xd, xe, xf, xg, xh, xi, xj, xk, xl, xm, xn, xo, xp, xq, xr, xs =>
    GL59_9t1_0 A B (F96_1 A B N) (L59_9t1_0 A B N n) k0 k1 x0 x1 x2 x3 x4 x5 x6 x7 x8 x9 xa xb xc xd xe xf xg xh xi xj xk xl xm xn xo xp xq xr xs

def P88 : List PT := [.us 2, (.bx [(.r (.i .i64)), (.r (.i .i64)), (.r (.i .i64)), (.r (.i .i64)), (.r (.i .i64)), (.r (.i .i64)), (.r (.ro 4))]), (.bx [(.r (.i .i64)), (.r (.i .i64)), (.r (.i .i64)), (.r (.i .i64)), (.r (.i .i64)), (.r (.ro 2)), (.r (.i .i64)), (.r (.i .i64)), (.r .b), (.r .b), (.r .b), (.r .b), (.r .b), (.r .b), (.r .b), (.r .b), (.r (.ro 1)), (.r (.i .i64)), (.r (.i .i64))]), .us 38, (.own true 4), (.r (.i .i64)), (.r (.i .i64)), .us 9]

noncomputable def M59_9t1 {β : Type} (l59_9t1_0 : (Int → Option β) → (Option β) → Q25 β) (s : List T) : Option ((Ex → List T → Option β) → Option β) :=
  match gTs P88 (clean ((Hn 59).lp 9).1 s) [] with
  | some [.i x0, .i x1, .i x2, .i x3, .i x4, .i x5, .l x6, .i x7, .i x8, .i x9, .i xa, .i xb, .l xc, .i xd, .i xe, .b xf, .b xg, .b xh, .b xi, .b xj, .b xk, .b xl, .b xm, .l xn, .i xo, .i xp, .l xq, .i xr, .i xs] => some fun kk => l59_9t1_0 (fun xt => kk Ex.rt (S72 xt)) (kk (Ex.ex 0) (S73)) x0 x1 x2 x3 x4 x5 x6 x7 x8 x9 xa xb xc xd xe xf xg xh xi xj xk xl xm xn xo xp xq xr xs
  | _ => none

theorem e59_9t1_0 {β : Type} (A : Pr) (B : Pk) (f96_1 : Int → Int → Int → Int → Int → Int → List R → Int → Int → Int → Int → Int → List R → Int → Int → Bool → Bool → Bool → Bool → Bool → Bool → Bool → Bool → List R → Int → Int → Int → Int → Int → Int → (Bool → Option β) → Option β) (l59_9t1_0 : (Int → Option β) → (Option β) → Q25 β) (x0 x1 x2 x3 x4 x5 : Int) (x6 : List R) (x7 x8 x9 xa xb : Int) (xc : List R) (xd xe : Int) (xf xg xh xi xj xk xl xm : Bool) (xn : List R) (xo xp : Int) (xq : List R) (xr xs : Int) (kk : Ex → List T → Option β) :
    uTs P88 [.i x0, .i x1, .i x2, .i x3, .i x4, .i x5, .l x6, .i x7, .i x8, .i x9, .i xa, .i xb, .l xc, .i xd, .i xe, .b xf, .b xg, .b xh, .b xi, .b xj, .b xk, .b xl, .b xm, .l xn, .i xo, .i xp, .l xq, .i xr, .i xs] (fun s _ => evK (mkK Try.prog A B [(96, M96_1 f96_1)] [] (Hn 59).pt []) X59_9 s (fun e s' => match e with
      | .nm => (match M59_9t1 l59_9t1_0 s' with | some h => h kk | none => none)
      | .ex m => kk (.ex m) (clean ((Hn 59).lp (firstReg X59_9)).2 s')
      | .rt => kk .rt (clean ((Hn 59).lp (firstReg X59_9)).2 s'))) = GL59_9t1_0 A B f96_1 l59_9t1_0 (fun xt => kk Ex.rt (S72 xt)) (kk (Ex.ex 0) (S73)) x0 x1 x2 x3 x4 x5 x6 x7 x8 x9 xa xb xc xd xe xf xg xh xi xj xk xl xm xn xo xp xq xr xs := by kernel_rfl

theorem ol59_9t1 {β : Type} (N : Nat) : ∀ n, SndL (β := β) Try.prog Hn (Hn 59) X59_9 (M59_9t1 (L59_9t1_0 re rk N n))
  | 0 => by
    intro s h kk r ha hr
    unfold M59_9t1 at ha
    split at ha
    · cases ha; cases hr
    · cases ha
  | n + 1 => by
    have ih := ol59_9t1 (β := β) N n
    intro s h kk r ha hr
    unfold M59_9t1 at ha
    split at ha
    · rename_i hs
      cases ha
      have hk := via_pat hs ((e59_9t1_0 re rk (F96_1 re rk N) (L59_9t1_0 re rk N n) _ _ _ _ _ _ _ _ _ _ _ _ _ _ _ _ _ _ _ _ _ _ _ _ _ _ _ _ _ kk).trans hr)
      exact round_ok (show SndAll Try.prog Hn [(96, M96_1 (F96_1 re rk N))] from ⟨o96_1 N, trivial⟩) (spots := []) (by kernel_rfl) trivial ih (hd := clean ((Hn 59).lp 9).1 s) (by rw [i59_9]) hk
    · cases ha

def G59_1 {β : Type} (A : Pr) (B : Pk) (f45_0 : Int → Int → Int → Int → Int → Int → List R → (Int → Option β) → Option β) (f72_0 : Int → Int → List R → (Bool → Option β) → Option β) (f94_1 : Int → Int → Int → Int → Int → Int → List R → Int → Int → Int → Int → Int → List R → Int → Int → Bool → Bool → Bool → Bool → Bool → Bool → Bool → Bool → List R → Int → Int → (Bool → Option β) → Option β) (f95_0 : Int → Int → Int → Int → Int → Int → (List R → Option β) → Option β) (l59_9t1_0 : (Int → Option β) → (Option β) → Q25 β) (x0 x1 x2 x3 x4 x5 : Int) (x6 : List R) (x7 x8 x9 xa xb : Int) (xc : List R) (xd xe : Int) (xf xg xh xi xj xk xl xm : Bool) (xn : List R) (xo xp : Int) (k0 : Int → Option β) : Option β :=
    f45_0 x0 x1 x2 x3 x4 x5 x6 (fun xq =>
    match (A.cm .neq xq 0) with
      | true => (k0 xq)
      | false => (f72_0 1 3 [(R.i .i64 x7)] (fun xr =>
        match (A.bn xr) with
          | true => (k0 3)
          | false => (f72_0 0 2 [(R.i .i64 x9)] (fun xs =>
            match (A.bn xs) with
              | true => (k0 3)
              | false => (f72_0 1 5 [(R.i .i64 xd)] (fun xt =>
                match (A.bn xt) with
                  | true => (k0 3)
                  | false => (f94_1 x0 x1 x2 x3 x4 x5 x6 x7 x8 x9 xa xb xc xd xe xf xg xh xi xj xk xl xm xn xo xp (fun xu =>
                    match (A.bn xu) with
                      | true => (k0 13)
                      | false => (f95_0 x0 x1 x2 x3 x4 x5 (fun xv =>
                        l59_9t1_0 (fun xw =>
                          k0 xw) (k0 0) x0 x1 x2 x3 x4 x5 x6 x7 x8 x9 xa xb xc xd xe xf xg xh xi xj xk xl xm xn xo xp xv (A.on (A.len xv)) 0)))))))))))

def F59_1 {β : Type} (A : Pr) (B : Pk) (N : Nat) (x0 x1 x2 x3 x4 x5 : Int) (x6 : List R) (x7 x8 x9 xa xb : Int) (xc : List R) (xd xe : Int) (xf xg xh xi xj xk xl xm : Bool) (xn : List R) (xo xp : Int) (k0 : Int → Option β) : Option β :=
  G59_1 A B (F45_0 A B N) (F72_0 A B N) (F94_1 A B N) (F95_0 A B N) (L59_9t1_0 A B N N) x0 x1 x2 x3 x4 x5 x6 x7 x8 x9 xa xb xc xd xe xf xg xh xi xj xk xl xm xn xo xp k0

def M59_1 {β : Type} (f59_1 : Int → Int → Int → Int → Int → Int → List R → Int → Int → Int → Int → Int → List R → Int → Int → Bool → Bool → Bool → Bool → Bool → Bool → Bool → Bool → List R → Int → Int → (Int → Option β) → Option β) (a : List T) : Option ((T → List (List T) → Option β) → Option β) :=
  match gTs P39 a [] with
  | some [.i x0, .i x1, .i x2, .i x3, .i x4, .i x5, .l x6, .i x7, .i x8, .i x9, .i xa, .i xb, .l xc, .i xd, .i xe, .b xf, .b xg, .b xh, .b xi, .b xj, .b xk, .b xl, .b xm, .l xn, .i xo, .i xp] => some fun kk => f59_1 x0 x1 x2 x3 x4 x5 x6 x7 x8 x9 xa xb xc xd xe xf xg xh xi xj xk xl xm xn xo xp (fun xq => kk (T.r (R.i .i64 xq)) [])
  | _ => none

theorem e59_1 {β : Type} (A : Pr) (B : Pk) (f45_0 : Int → Int → Int → Int → Int → Int → List R → (Int → Option β) → Option β) (f72_0 : Int → Int → List R → (Bool → Option β) → Option β) (f94_1 : Int → Int → Int → Int → Int → Int → List R → Int → Int → Int → Int → Int → List R → Int → Int → Bool → Bool → Bool → Bool → Bool → Bool → Bool → Bool → List R → Int → Int → (Bool → Option β) → Option β) (f95_0 : Int → Int → Int → Int → Int → Int → (List R → Option β) → Option β) (l59_9t1_0 : (Int → Option β) → (Option β) → Q25 β) (x0 x1 x2 x3 x4 x5 : Int) (x6 : List R) (x7 x8 x9 xa xb : Int) (xc : List R) (xd xe : Int) (xf xg xh xi xj xk xl xm : Bool) (xn : List R) (xo xp : Int) (kk : T → List (List T) → Option β) :
    uTs P39 [.i x0, .i x1, .i x2, .i x3, .i x4, .i x5, .l x6, .i x7, .i x8, .i x9, .i xa, .i xb, .l xc, .i xd, .i xe, .b xf, .b xg, .b xh, .b xi, .b xj, .b xk, .b xl, .b xm, .l xn, .i xo, .i xp] (fun a _ => bodyK (mkK Try.prog A B [(45, M45_0 f45_0), (72, M72_0 f72_0), (94, M94_1 f94_1), (95, M95_0 f95_0)] [(9, M59_9t1 l59_9t1_0)] (Hn 59).pt []) Try.f59 a kk) = G59_1 A B f45_0 f72_0 f94_1 f95_0 l59_9t1_0 x0 x1 x2 x3 x4 x5 x6 x7 x8 x9 xa xb xc xd xe xf xg xh xi xj xk xl xm xn xo xp (fun xq => kk (T.r (R.i .i64 xq)) []) := by kernel_rfl

theorem o59_1 {β : Type} (N : Nat) : Snd (β := β) Try.prog Hn 59 (M59_1 (F59_1 re rk N)) := by
  intro a h kk r ha hr
  unfold M59_1 at ha
  split at ha
  · rename_i hs
    cases ha
    have hk := via_pat hs ((e59_1 re rk (F45_0 re rk N) (F72_0 re rk N) (F94_1 re rk N) (F95_0 re rk N) (L59_9t1_0 re rk N N) _ _ _ _ _ _ _ _ _ _ _ _ _ _ _ _ _ _ _ _ _ _ _ _ _ _ kk).trans hr)
    exact fn_ok (f := 59) (fn := Try.f59) (H := Hn) (by kernel_rfl) (show SndAll Try.prog Hn [(45, M45_0 (F45_0 re rk N)), (72, M72_0 (F72_0 re rk N)), (94, M94_1 (F94_1 re rk N)), (95, M95_0 (F95_0 re rk N))] from ⟨o45_0 N, o72_0 N, o94_1 N, o95_0 N, trivial⟩) (spots := [.lp X59_9]) (by kernel_rfl) ⟨cut_lp (id := 9) i59_9 (ol59_9t1 N N) (fun s kk => by kernel_rfl), trivial⟩ hk
  · cases ha

def G33_1 {β : Type} (A : Pr) (B : Pk) (f59_1 : Int → Int → Int → Int → Int → Int → List R → Int → Int → Int → Int → Int → List R → Int → Int → Bool → Bool → Bool → Bool → Bool → Bool → Bool → Bool → List R → Int → Int → (Int → Option β) → Option β) (f60_0 : Int → Int → Int → Int → Int → Int → Int → Int → (Int → Int → Int → Int → Option β) → Option β) (f61_0 : Int → Int → Int → Int → (Bool → Option β) → Option β) (f62_0 : Int → Int → Int → Int → (Bool → Option β) → Option β) (f63_0 : Int → Int → Int → Int → Int → Int → List R → Int → Int → Int → Int → Int → Int → Int → Bool → Bool → Bool → Bool → Bool → Bool → Bool → Bool → Int → Int → (Q23 β) → Option β) (f47_0 : Int → Int → Int → Int → Int → Int → (Int → Int → Int → Int → Option β) → Option β) (f45_0 : Int → Int → Int → Int → Int → Int → List R → (Int → Option β) → Option β) (x0 x1 x2 x3 x4 x5 : Int) (x6 : List R) (x7 x8 x9 xa xb : Int) (xc : List R) (xd xe : Int) (xf xg xh xi xj xk xl xm : Bool) (xn : List R) (xo xp xq xr xs xt xu xv : Int) (k0 : Int → Int → Int → Int → Int → Int → Int → Option β) (k1 : Int → Int → Int → Int → Int → Int → List R → Int → Option β) : Option β :=
    f59_1 x0 x1 x2 x3 x4 x5 x6 x7 x8 x9 xa xb xc xd xe xf xg xh xi xj xk xl xm xn xo xp (fun xw =>
    match (A.cm .neq xw 0) with
      | true => (k0 0 0 0 0 0 0 xw)
      | false => (match (A.cm .lss xq 0) with
        | true => (k0 0 0 0 0 0 0 2)
        | false => (match (A.cm .gtr xq 16) with
          | true => (k0 0 0 0 0 0 0 2)
          | false => (match (A.cm .lss xr 0) with
            | true => (k0 0 0 0 0 0 0 2)
            | false => (match (A.cm .gtr xr x8) with
              | true => (k0 0 0 0 0 0 0 2)
              | false => (match (A.bn (A.ba (A.cm .eql xs 0) (A.ba (A.cm .eql xt 0) (A.ba (A.cm .eql xu 0) (A.ba (A.cm .eql xv 0) true))))) with
                | true => (f60_0 x0 x1 x2 x3 xs xt xu xv (fun xx xy xz x10 =>
                  f61_0 xs xt xu xv (fun x11 =>
                    match (A.bn x11) with
                      | true => (k0 0 0 0 0 0 0 2)
                      | false => (f62_0 xx xy xz x10 (fun x12 =>
                        match x12 with
                          | true => (k0 0 0 0 0 0 0 2)
                          | false => (match (A.sh (A.cv .u64 xr)) with
                            | true => (f63_0 x0 x1 x2 x3 x4 x5 x6 0 0 0 0 0 0 0 false false false false false false false false 0 0 (fun x13 x14 x15 x16 x17 x18 x19 x1a x1b x1c x1d x1e x1f x1g x1h x1i x1j x1k x1l x1m x1n x1o x1p x1q x1r x1s =>
                              f47_0 xx xy xz x10 (A.ar .shl .i64 1 (A.cv .u64 xr)) (A.ar .shl .i64 1 (A.cv .u64 xr)) (fun x1t x1u x1v x1w =>
                                f45_0 x1t x1u x1v x1w 4096 4096 x19 (fun x1x =>
                                  match (A.cm .neq x1x 0) with
                                    | true => (k0 0 0 0 0 0 0 2)
                                    | false => (k1 x1t x1u x1v x1w 4096 4096 x19 0)))))
                            | false => none))))))
                | false => (match (A.sh (A.cv .u64 xr)) with
                  | true => (f63_0 x0 x1 x2 x3 x4 x5 x6 0 0 0 0 0 0 0 false false false false false false false false 0 0 (fun x1y x1z x20 x21 x22 x23 x24 x25 x26 x27 x28 x29 x2a x2b x2c x2d x2e x2f x2g x2h x2i x2j x2k x2l x2m x2n =>
                    f47_0 x0 x1 x2 x3 (A.ar .shl .i64 1 (A.cv .u64 xr)) (A.ar .shl .i64 1 (A.cv .u64 xr)) (fun x2o x2p x2q x2r =>
                      f45_0 x2o x2p x2q x2r 4096 4096 x24 (fun x2s =>
                        match (A.cm .neq x2s 0) with
                          | true => (k0 0 0 0 0 0 0 2)
                          | false => (k1 x2o x2p x2q x2r 4096 4096 x24 0)))))
                  | false => none)))))))

def F33_1 {β : Type} (A : Pr) (B : Pk) (N : Nat) (x0 x1 x2 x3 x4 x5 : Int) (x6 : List R) (x7 x8 x9 xa xb : Int) (xc : List R) (xd xe : Int) (xf xg xh xi xj xk xl xm : Bool) (xn : List R) (xo xp xq xr xs xt xu xv : Int) (k0 : Int → Int → Int → Int → Int → Int → Int → Option β) (k1 : Int → Int → Int → Int → Int → Int → List R → Int → Option β) : Option β :=
  G33_1 A B (F59_1 A B N) (F60_0 A B N) (F61_0 A B N) (F62_0 A B N) (F63_0 A B N) (F47_0 A B N) (F45_0 A B N) x0 x1 x2 x3 x4 x5 x6 x7 x8 x9 xa xb xc xd xe xf xg xh xi xj xk xl xm xn xo xp xq xr xs xt xu xv k0 k1

def P89 : List PT := [(.r (.a [(.i .i64), (.i .i64), (.i .i64), (.i .i64), (.i .i64), (.i .i64), (.ro 4)])), (.r (.a [(.i .i64), (.i .i64), (.i .i64), (.i .i64), (.i .i64), (.ro 2), (.i .i64), (.i .i64), .b, .b, .b, .b, .b, .b, .b, .b, (.ro 1), (.i .i64), (.i .i64)])), (.r (.a [(.i .i64), (.i .i64), (.i .i64), (.i .i64), (.i .i64), (.i .i64)]))]

def M33_1 {β : Type} (f33_1 : Int → Int → Int → Int → Int → Int → List R → Int → Int → Int → Int → Int → List R → Int → Int → Bool → Bool → Bool → Bool → Bool → Bool → Bool → Bool → List R → Int → Int → Int → Int → Int → Int → Int → Int → (Int → Int → Int → Int → Int → Int → Int → Option β) → (Int → Int → Int → Int → Int → Int → List R → Int → Option β) → Option β) (a : List T) : Option ((T → List (List T) → Option β) → Option β) :=
  match gTs P89 a [] with
  | some (.i x0 :: .i x1 :: .i x2 :: .i x3 :: .i x4 :: .i x5 :: .l x6 :: .i x7 :: .i x8 :: .i x9 :: .i xa :: .i xb :: .l xc :: .i xd :: .i xe :: .b xf :: .b xg :: .b xh :: .b xi :: .b xj :: .b xk :: .b xl :: .b xm :: .l xn :: .i xo :: .i xp :: .i xq :: .i xr :: .i xs :: .i xt :: .i xu :: .i xv :: []) => some fun kk => f33_1 x0 x1 x2 x3 x4 x5 x6 x7 x8 x9 xa xb xc xd xe xf xg xh xi xj xk xl xm xn xo xp xq xr xs xt xu xv (fun xw xx xy xz x10 x11 x12 => kk (T.tp true [(T.tp false [(T.r (R.i .i64 xw)), (T.r (R.i .i64 xx)), (T.r (R.i .i64 xy)), (T.r (R.i .i64 xz)), (T.r (R.i .i64 x10)), (T.r (R.i .i64 x11)), (T.r R.sn)]), (T.r (R.i .i64 x12))]) []) (fun x13 x14 x15 x16 x17 x18 x19 x1a => kk (T.tp true [(T.tp false [(T.r (R.i .i64 x13)), (T.r (R.i .i64 x14)), (T.r (R.i .i64 x15)), (T.r (R.i .i64 x16)), (T.r (R.i .i64 x17)), (T.r (R.i .i64 x18)), (T.own true 4 x19)]), (T.r (R.i .i64 x1a))]) [])
  | _ => none

theorem e33_1 {β : Type} (A : Pr) (B : Pk) (f59_1 : Int → Int → Int → Int → Int → Int → List R → Int → Int → Int → Int → Int → List R → Int → Int → Bool → Bool → Bool → Bool → Bool → Bool → Bool → Bool → List R → Int → Int → (Int → Option β) → Option β) (f60_0 : Int → Int → Int → Int → Int → Int → Int → Int → (Int → Int → Int → Int → Option β) → Option β) (f61_0 : Int → Int → Int → Int → (Bool → Option β) → Option β) (f62_0 : Int → Int → Int → Int → (Bool → Option β) → Option β) (f63_0 : Int → Int → Int → Int → Int → Int → List R → Int → Int → Int → Int → Int → Int → Int → Bool → Bool → Bool → Bool → Bool → Bool → Bool → Bool → Int → Int → (Q23 β) → Option β) (f47_0 : Int → Int → Int → Int → Int → Int → (Int → Int → Int → Int → Option β) → Option β) (f45_0 : Int → Int → Int → Int → Int → Int → List R → (Int → Option β) → Option β) (x0 x1 x2 x3 x4 x5 : Int) (x6 : List R) (x7 x8 x9 xa xb : Int) (xc : List R) (xd xe : Int) (xf xg xh xi xj xk xl xm : Bool) (xn : List R) (xo xp xq xr xs xt xu xv : Int) (kk : T → List (List T) → Option β) :
    uTs P89 (.i x0 :: .i x1 :: .i x2 :: .i x3 :: .i x4 :: .i x5 :: .l x6 :: .i x7 :: .i x8 :: .i x9 :: .i xa :: .i xb :: .l xc :: .i xd :: .i xe :: .b xf :: .b xg :: .b xh :: .b xi :: .b xj :: .b xk :: .b xl :: .b xm :: .l xn :: .i xo :: .i xp :: .i xq :: .i xr :: .i xs :: .i xt :: .i xu :: .i xv :: []) (fun a _ => bodyK (mkK Try.prog A B [(59, M59_1 f59_1), (60, M60_0 f60_0), (61, M61_0 f61_0), (62, M62_0 f62_0), (63, M63_0 f63_0), (47, M47_0 f47_0), (45, M45_0 f45_0)] [] (Hn 33).pt []) Try.f33 a kk) = G33_1 A B f59_1 f60_0 f61_0 f62_0 f63_0 f47_0 f45_0 x0 x1 x2 x3 x4 x5 x6 x7 x8 x9 xa xb xc xd xe xf xg xh xi xj xk xl xm xn xo xp xq xr xs xt xu xv (fun xw xx xy xz x10 x11 x12 => kk (T.tp true [(T.tp false [(T.r (R.i .i64 xw)), (T.r (R.i .i64 xx)), (T.r (R.i .i64 xy)), (T.r (R.i .i64 xz)), (T.r (R.i .i64 x10)), (T.r (R.i .i64 x11)), (T.r R.sn)]), (T.r (R.i .i64 x12))]) []) (fun x13 x14 x15 x16 x17 x18 x19 x1a => kk (T.tp true [(T.tp false [(T.r (R.i .i64 x13)), (T.r (R.i .i64 x14)), (T.r (R.i .i64 x15)), (T.r (R.i .i64 x16)), (T.r (R.i .i64 x17)), (T.r (R.i .i64 x18)), (T.own true 4 x19)]), (T.r (R.i .i64 x1a))]) []) := by kernel_rfl

theorem o33_1 {β : Type} (N : Nat) : Snd (β := β) Try.prog Hn 33 (M33_1 (F33_1 re rk N)) := by
  intro a h kk r ha hr
  unfold M33_1 at ha
  split at ha
  · rename_i hs
    cases ha
    have hk := via_pat hs ((e33_1 re rk (F59_1 re rk N) (F60_0 re rk N) (F61_0 re rk N) (F62_0 re rk N) (F63_0 re rk N) (F47_0 re rk N) (F45_0 re rk N) _ _ _ _ _ _ _ _ _ _ _ _ _ _ _ _ _ _ _ _ _ _ _ _ _ _ _ _ _ _ _ _ kk).trans hr)
    exact fn_ok (f := 33) (fn := Try.f33) (H := Hn) (by kernel_rfl) (show SndAll Try.prog Hn [(59, M59_1 (F59_1 re rk N)), (60, M60_0 (F60_0 re rk N)), (61, M61_0 (F61_0 re rk N)), (62, M62_0 (F62_0 re rk N)), (63, M63_0 (F63_0 re rk N)), (47, M47_0 (F47_0 re rk N)), (45, M45_0 (F45_0 re rk N))] from ⟨o59_1 N, o60_0 N, o61_0 N, o62_0 N, o63_0 N, o47_0 N, o45_0 N, trivial⟩) (spots := []) (by kernel_rfl) trivial hk
  · cases ha

def G34_0 {β : Type} (A : Pr) (B : Pk) (f57_0 : Int → Int → Int → Int → Int → Int → List R → Int → Int → Int → Int → Int → List R → Int → Int → Bool → Bool → Bool → Bool → Bool → Bool → Bool → Bool → List R → Int → Int → (Int → Option β) → Option β) (f64_0 : Int → Int → Int → Int → Int → Int → Int → Int → (Int → Int → Int → Int → Option β) → Option β) (f65_0 : Int → Int → Int → Int → (Bool → Option β) → Option β) (f66_0 : Int → Int → Int → Int → (Bool → Option β) → Option β) (f51_0 : Int → Int → Int → Int → Int → Int → (Int → Int → Int → Int → Option β) → Option β) (f49_0 : Int → Int → Int → Int → Int → Int → List R → (Int → Option β) → Option β) (x0 x1 x2 x3 x4 x5 : Int) (x6 : List R) (x7 x8 x9 xa xb : Int) (xc : List R) (xd xe : Int) (xf xg xh xi xj xk xl xm : Bool) (xn : List R) (xo xp xq xr xs xt xu xv : Int) (k0 : Int → Int → Int → Int → Int → Int → Int → Option β) (k1 : Int → Int → Int → Int → Int → Int → List R → Int → Option β) : Option β :=
    f57_0 x0 x1 x2 x3 x4 x5 x6 x7 x8 x9 xa xb xc xd xe xf xg xh xi xj xk xl xm xn xo xp (fun xw =>
    match (A.cm .neq xw 0) with
      | true => (k0 0 0 0 0 0 0 xw)
      | false => (match (A.cm .lss xq 0) with
        | true => (k0 0 0 0 0 0 0 2)
        | false => (match (A.cm .gtr xq 16) with
          | true => (k0 0 0 0 0 0 0 2)
          | false => (match (A.cm .lss xr 0) with
            | true => (k0 0 0 0 0 0 0 2)
            | false => (match (A.cm .gtr xr x8) with
              | true => (k0 0 0 0 0 0 0 2)
              | false => (match (A.bn (A.ba (A.cm .eql xs 0) (A.ba (A.cm .eql xt 0) (A.ba (A.cm .eql xu 0) (A.ba (A.cm .eql xv 0) true))))) with
                | true => (f64_0 x0 x1 x2 x3 xs xt xu xv (fun xx xy xz x10 =>
                  f65_0 xs xt xu xv (fun x11 =>
                    match (A.bn x11) with
                      | true => (k0 0 0 0 0 0 0 2)
                      | false => (f66_0 xx xy xz x10 (fun x12 =>
                        match x12 with
                          | true => (k0 0 0 0 0 0 0 2)
                          | false => (match (A.sh (A.cv .u64 xr)) with
                            | true => (f51_0 xx xy xz x10 (A.ar .shl .i64 1 (A.cv .u64 xr)) (A.ar .shl .i64 1 (A.cv .u64 xr)) (fun x13 x14 x15 x16 =>
                              match (A.small (A.len (A.app [] x6)) 32) with
                                | true => (f49_0 x13 x14 x15 x16 4096 4096 (A.app [] x6) (fun x17 =>
                                  match (A.cm .neq x17 0) with
                                    | true => (k0 0 0 0 0 0 0 2)
                                    | false => (k1 x13 x14 x15 x16 4096 4096 (A.app [] x6) 0)))
                                | false => none))
                            | false => none))))))
                | false => (match (A.sh (A.cv .u64 xr)) with
                  | true => (f51_0 x0 x1 x2 x3 (A.ar .shl .i64 1 (A.cv .u64 xr)) (A.ar .shl .i64 1 (A.cv .u64 xr)) (fun x18 x19 x1a x1b =>
                    match (A.small (A.len (A.app [] x6)) 32) with
                      | true => (f49_0 x18 x19 x1a x1b 4096 4096 (A.app [] x6) (fun x1c =>
                        match (A.cm .neq x1c 0) with
                          | true => (k0 0 0 0 0 0 0 2)
                          | false => (k1 x18 x19 x1a x1b 4096 4096 (A.app [] x6) 0)))
                      | false => none))
                  | false => none)))))))

def F34_0 {β : Type} (A : Pr) (B : Pk) (N : Nat) (x0 x1 x2 x3 x4 x5 : Int) (x6 : List R) (x7 x8 x9 xa xb : Int) (xc : List R) (xd xe : Int) (xf xg xh xi xj xk xl xm : Bool) (xn : List R) (xo xp xq xr xs xt xu xv : Int) (k0 : Int → Int → Int → Int → Int → Int → Int → Option β) (k1 : Int → Int → Int → Int → Int → Int → List R → Int → Option β) : Option β :=
  G34_0 A B (F57_0 A B N) (F64_0 A B N) (F65_0 A B N) (F66_0 A B N) (F51_0 A B N) (F49_0 A B N) x0 x1 x2 x3 x4 x5 x6 x7 x8 x9 xa xb xc xd xe xf xg xh xi xj xk xl xm xn xo xp xq xr xs xt xu xv k0 k1

def M34_0 {β : Type} (f34_0 : Int → Int → Int → Int → Int → Int → List R → Int → Int → Int → Int → Int → List R → Int → Int → Bool → Bool → Bool → Bool → Bool → Bool → Bool → Bool → List R → Int → Int → Int → Int → Int → Int → Int → Int → (Int → Int → Int → Int → Int → Int → Int → Option β) → (Int → Int → Int → Int → Int → Int → List R → Int → Option β) → Option β) (a : List T) : Option ((T → List (List T) → Option β) → Option β) :=
  match gTs P89 a [] with
  | some (.i x0 :: .i x1 :: .i x2 :: .i x3 :: .i x4 :: .i x5 :: .l x6 :: .i x7 :: .i x8 :: .i x9 :: .i xa :: .i xb :: .l xc :: .i xd :: .i xe :: .b xf :: .b xg :: .b xh :: .b xi :: .b xj :: .b xk :: .b xl :: .b xm :: .l xn :: .i xo :: .i xp :: .i xq :: .i xr :: .i xs :: .i xt :: .i xu :: .i xv :: []) => some fun kk => f34_0 x0 x1 x2 x3 x4 x5 x6 x7 x8 x9 xa xb xc xd xe xf xg xh xi xj xk xl xm xn xo xp xq xr xs xt xu xv (fun xw xx xy xz x10 x11 x12 => kk (T.tp true [(T.tp false [(T.r (R.i .i64 xw)), (T.r (R.i .i64 xx)), (T.r (R.i .i64 xy)), (T.r (R.i .i64 xz)), (T.r (R.i .i64 x10)), (T.r (R.i .i64 x11)), (T.r R.sn)]), (T.r (R.i .i64 x12))]) []) (fun x13 x14 x15 x16 x17 x18 x19 x1a => kk (T.tp true [(T.tp false [(T.r (R.i .i64 x13)), (T.r (R.i .i64 x14)), (T.r (R.i .i64 x15)), (T.r (R.i .i64 x16)), (T.r (R.i .i64 x17)), (T.r (R.i .i64 x18)), (T.own true 4 x19)]), (T.r (R.i .i64 x1a))]) [])
  | _ => none

theorem e34_0 {β : Type} (A : Pr) (B : Pk) (f57_0 : Int → Int → Int → Int → Int → Int → List R → Int → Int → Int → Int → Int → List R → Int → Int → Bool → Bool → Bool → Bool → Bool → Bool → Bool → Bool → List R → Int → Int → (Int → Option β) → Option β) (f64_0 : Int → Int → Int → Int → Int → Int → Int → Int → (Int → Int → Int → Int → Option β) → Option β) (f65_0 : Int → Int → Int → Int → (Bool → Option β) → Option β) (f66_0 : Int → Int → Int → Int → (Bool → Option β) → Option β) (f51_0 : Int → Int → Int → Int → Int → Int → (Int → Int → Int → Int → Option β) → Option β) (f49_0 : Int → Int → Int → Int → Int → Int → List R → (Int → Option β) → Option β) (x0 x1 x2 x3 x4 x5 : Int) (x6 : List R) (x7 x8 x9 xa xb : Int) (xc : List R) (xd xe : Int) (xf xg xh xi xj xk xl xm : Bool) (xn : List R) (xo xp xq xr xs xt xu xv : Int) (kk : T → List (List T) → Option β) :
    uTs P89 (.i x0 :: .i x1 :: .i x2 :: .i x3 :: .i x4 :: .i x5 :: .l x6 :: .i x7 :: .i x8 :: .i x9 :: .i xa :: .i xb :: .l xc :: .i xd :: .i xe :: .b xf :: .b xg :: .b xh :: .b xi :: .b xj :: .b xk :: .b xl :: .b xm :: .l xn :: .i xo :: .i xp :: .i xq :: .i xr :: .i xs :: .i xt :: .i xu :: .i xv :: []) (fun a _ => bodyK (mkK Try.prog A B [(57, M57_0 f57_0), (64, M64_0 f64_0), (65, M65_0 f65_0), (66, M66_0 f66_0), (51, M51_0 f51_0), (49, M49_0 f49_0)] [] (Hn 34).pt []) Try.f34 a kk) = G34_0 A B f57_0 f64_0 f65_0 f66_0 f51_0 f49_0 x0 x1 x2 x3 x4 x5 x6 x7 x8 x9 xa xb xc xd xe xf xg xh xi xj xk xl xm xn xo xp xq xr xs xt xu xv (fun xw xx xy xz x10 x11 x12 => kk (T.tp true [(T.tp false [(T.r (R.i .i64 xw)), (T.r (R.i .i64 xx)), (T.r (R.i .i64 xy)), (T.r (R.i .i64 xz)), (T.r (R.i .i64 x10)), (T.r (R.i .i64 x11)), (T.r R.sn)]), (T.r (R.i .i64 x12))]) []) (fun x13 x14 x15 x16 x17 x18 x19 x1a => kk (T.tp true [(T.tp false [(T.r (R.i .i64 x13)), (T.r (R.i .i64 x14)), (T.r (R.i .i64 x15)), (T.r (R.i .i64 x16)), (T.r (R.i .i64 x17)), (T.r (R.i .i64 x18)), (T.own true 4 x19)]), (T.r (R.i .i64 x1a))]) []) := by kernel_rfl

theorem o34_0 {β : Type} (N : Nat) : Snd (β := β) Try.prog Hn 34 (M34_0 (F34_0 re rk N)) := by
  intro a h kk r ha hr
  unfold M34_0 at ha
  split at ha
  · rename_i hs
    cases ha
    have hk := via_pat hs ((e34_0 re rk (F57_0 re rk N) (F64_0 re rk N) (F65_0 re rk N) (F66_0 re rk N) (F51_0 re rk N) (F49_0 re rk N) _ _ _ _ _ _ _ _ _ _ _ _ _ _ _ _ _ _ _ _ _ _ _ _ _ _ _ _ _ _ _ _ kk).trans hr)
    exact fn_ok (f := 34) (fn := Try.f34) (H := Hn) (by kernel_rfl) (show SndAll Try.prog Hn [(57, M57_0 (F57_0 re rk N)), (64, M64_0 (F64_0 re rk N)), (65, M65_0 (F65_0 re rk N)), (66, M66_0 (F66_0 re rk N)), (51, M51_0 (F51_0 re rk N)), (49, M49_0 (F49_0 re rk N))] from ⟨o57_0 N, o64_0 N, o65_0 N, o66_0 N, o51_0 N, o49_0 N, trivial⟩) (spots := []) (by kernel_rfl) trivial hk
  · cases ha

noncomputable def X67_4 : Code := atF Try.f67 [true, true, false, true, false, false]
theorem i67_4 : firstReg X67_4 = 4 := by kernel_rfl

def GL67_4_0 {β : Type} (A : Pr) (B : Pk) (l67_4_0 : (Option β) → Q31 β) (k0 : Option β) (x0 x1 x2 x3 x4 x5 x6 x7 x8 x9 xa xb xc : Int) : Option β :=
    match (A.cm .lss xc (A.on 0)) with
    | true => none
    | false => k0

def L67_4_0 {β : Type} (A : Pr) (B : Pk) (N : Nat) : Nat → (Option β) → Q31 β
  | 0, _, _, _, _, _, _, _, _, _, _, _, _, _, _ => none
  | n + 1, k0, x0, x1, x2, x3, x4, x5, x6, x7, x8, x9, xa, xb, xc =>
    GL67_4_0 A B (L67_4_0 A B N n) k0 x0 x1 x2 x3 x4 x5 x6 x7 x8 x9 xa xb xc

def P90 : List PT := [.us 52]

def S90  : List T := (T.u :: T.u :: T.u :: T.u :: T.u :: T.u :: T.u :: T.u :: T.u :: T.u :: T.u :: T.u :: T.u :: T.u :: T.u :: T.u :: T.u :: T.u :: T.u :: T.u :: T.u :: T.u :: T.u :: T.u :: T.u :: T.u :: T.u :: T.u :: T.u :: T.u :: T.u :: T.u :: T.u :: T.u :: T.u :: T.u :: T.u :: T.u :: T.u :: T.u :: T.u :: T.u :: T.u :: T.u :: T.u :: T.u :: T.u :: T.u :: T.u :: T.u :: T.u :: T.u :: [])

def P91 : List PT := [.us 2, (.bx [(.r (.i .i64)), (.r (.i .i64)), (.r (.i .i64)), (.r (.i .i64)), (.r (.i .i64)), (.r (.i .i64)), (.r .sn)]), (.bx [(.r (.i .i64)), (.r (.i .i64)), (.r (.i .i64)), (.r (.i .i64)), (.r (.i .i64)), (.r (.i .i64)), (.r .sn)]), .us 1, (.r (.i .i64)), .us 46]

noncomputable def M67_4 {β : Type} (l67_4_0 : (Option β) → Q31 β) (s : List T) : Option ((Ex → List T → Option β) → Option β) :=
  match gTs P91 (clean ((Hn 67).lp 4).1 s) [] with
  | some [.i x0, .i x1, .i x2, .i x3, .i x4, .i x5, .i x6, .i x7, .i x8, .i x9, .i xa, .i xb, .i xc] => some fun kk => l67_4_0 (kk (Ex.ex 0) (S90)) x0 x1 x2 x3 x4 x5 x6 x7 x8 x9 xa xb xc
  | _ => none

theorem e67_4_0 {β : Type} (A : Pr) (B : Pk) (l67_4_0 : (Option β) → Q31 β) (x0 x1 x2 x3 x4 x5 x6 x7 x8 x9 xa xb xc : Int) (kk : Ex → List T → Option β) :
    uTs P91 [.i x0, .i x1, .i x2, .i x3, .i x4, .i x5, .i x6, .i x7, .i x8, .i x9, .i xa, .i xb, .i xc] (fun s _ => evK (mkK Try.prog A B [] [] (Hn 67).pt []) X67_4 s (fun e s' => match e with
      | .nm => (match M67_4 l67_4_0 s' with | some h => h kk | none => none)
      | .ex m => kk (.ex m) (clean ((Hn 67).lp (firstReg X67_4)).2 s')
      | .rt => kk .rt (clean ((Hn 67).lp (firstReg X67_4)).2 s'))) = GL67_4_0 A B l67_4_0 (kk (Ex.ex 0) (S90)) x0 x1 x2 x3 x4 x5 x6 x7 x8 x9 xa xb xc := by kernel_rfl

theorem ol67_4 {β : Type} (N : Nat) : ∀ n, SndL (β := β) Try.prog Hn (Hn 67) X67_4 (M67_4 (L67_4_0 re rk N n))
  | 0 => by
    intro s h kk r ha hr
    unfold M67_4 at ha
    split at ha
    · cases ha; cases hr
    · cases ha
  | n + 1 => by
    have ih := ol67_4 (β := β) N n
    intro s h kk r ha hr
    unfold M67_4 at ha
    split at ha
    · rename_i hs
      cases ha
      have hk := via_pat hs ((e67_4_0 re rk (L67_4_0 re rk N n) _ _ _ _ _ _ _ _ _ _ _ _ _ kk).trans hr)
      exact round_ok (show SndAll Try.prog Hn [] from trivial) (spots := []) (by kernel_rfl) trivial ih (hd := clean ((Hn 67).lp 4).1 s) (by rw [i67_4]) hk
    · cases ha

def G67_0 {β : Type} (A : Pr) (B : Pk) (l67_4_0 : (Option β) → Q31 β) (x0 x1 x2 x3 x4 x5 x6 x7 x8 x9 xa xb : Int) (k0 : Bool → Option β) : Option β :=
    match (A.bn (A.ba (A.cm .eql x0 x6) (A.ba (A.cm .eql x1 x7) (A.ba (A.cm .eql x2 x8) (A.ba (A.cm .eql x3 x9) true))))) with
    | true => (k0 false)
    | false => (match (A.cm .neq x4 xa) with
      | true => (k0 false)
      | false => (match (A.cm .neq x5 xb) with
        | true => (k0 false)
        | false => (match (A.cm .neq (A.on 0) (A.on 0)) with
          | true => (k0 false)
          | false => (l67_4_0 (k0 true) x0 x1 x2 x3 x4 x5 x6 x7 x8 x9 xa xb 0))))

def F67_0 {β : Type} (A : Pr) (B : Pk) (N : Nat) (x0 x1 x2 x3 x4 x5 x6 x7 x8 x9 xa xb : Int) (k0 : Bool → Option β) : Option β :=
  G67_0 A B (L67_4_0 A B N N) x0 x1 x2 x3 x4 x5 x6 x7 x8 x9 xa xb k0

def P92 : List PT := [(.r (.a [(.i .i64), (.i .i64), (.i .i64), (.i .i64), (.i .i64), (.i .i64), .sn])), (.r (.a [(.i .i64), (.i .i64), (.i .i64), (.i .i64), (.i .i64), (.i .i64), .sn]))]

def M67_0 {β : Type} (f67_0 : Int → Int → Int → Int → Int → Int → Int → Int → Int → Int → Int → Int → (Bool → Option β) → Option β) (a : List T) : Option ((T → List (List T) → Option β) → Option β) :=
  match gTs P92 a [] with
  | some [.i x0, .i x1, .i x2, .i x3, .i x4, .i x5, .i x6, .i x7, .i x8, .i x9, .i xa, .i xb] => some fun kk => f67_0 x0 x1 x2 x3 x4 x5 x6 x7 x8 x9 xa xb (fun xc => kk (T.r (R.b xc)) [])
  | _ => none

theorem e67_0 {β : Type} (A : Pr) (B : Pk) (l67_4_0 : (Option β) → Q31 β) (x0 x1 x2 x3 x4 x5 x6 x7 x8 x9 xa xb : Int) (kk : T → List (List T) → Option β) :
    uTs P92 [.i x0, .i x1, .i x2, .i x3, .i x4, .i x5, .i x6, .i x7, .i x8, .i x9, .i xa, .i xb] (fun a _ => bodyK (mkK Try.prog A B [] [(4, M67_4 l67_4_0)] (Hn 67).pt []) Try.f67 a kk) = G67_0 A B l67_4_0 x0 x1 x2 x3 x4 x5 x6 x7 x8 x9 xa xb (fun xc => kk (T.r (R.b xc)) []) := by kernel_rfl

theorem o67_0 {β : Type} (N : Nat) : Snd (β := β) Try.prog Hn 67 (M67_0 (F67_0 re rk N)) := by
  intro a h kk r ha hr
  unfold M67_0 at ha
  split at ha
  · rename_i hs
    cases ha
    have hk := via_pat hs ((e67_0 re rk (L67_4_0 re rk N N) _ _ _ _ _ _ _ _ _ _ _ _ kk).trans hr)
    exact fn_ok (f := 67) (fn := Try.f67) (H := Hn) (by kernel_rfl) (show SndAll Try.prog Hn [] from trivial) (spots := [.lp X67_4]) (by kernel_rfl) ⟨cut_lp (id := 4) i67_4 (ol67_4 N N) (fun s kk => by kernel_rfl), trivial⟩ hk
  · cases ha

noncomputable def X68_4 : Code := atF Try.f68 [true, true, false, true, false, false]
theorem i68_4 : firstReg X68_4 = 4 := by kernel_rfl

def GL68_4_0 {β : Type} (A : Pr) (B : Pk) (l68_4_0 : (Q32 β) → Q33 β) (k0 : Q32 β) (x0 x1 x2 x3 x4 x5 x6 : Int) (x7 x8 x9 xa xb xc xd xe : Bool) (xf xg xh xi xj xk xl xm xn : Int) (xo xp xq xr xs xt xu xv : Bool) (xw xx xy : Int) : Option β :=
    match (A.cm .lss xy (A.on 0)) with
    | true => none
    | false => (k0 x0 x1 x2 x3 x4 x5 x6 x7 x8 x9 xa xb xc xd xe xf xg xh xi xj xk xl xm xn xo xp xq xr xs xt xu xv xw xx)

def L68_4_0 {β : Type} (A : Pr) (B : Pk) (N : Nat) : Nat → (Q32 β) → Q33 β
  | 0, _, _, _, _, _, _, _, _, _, _, _, _, _, _, _, _, _, _, _, _, _, _, _, _, _, _, _, _, _, _, _, _, _, _, _, _ => none
  | n + 1, k0, x0, x1, x2, x3, x4, x5, x6, x7, x8, x9, xa, xb, xc, xd, xe, xf, xg, xh, xi, xj, xk, xl, xm, xn, xo, xp, xq, xr, xs, xt, xu, xv, xw, xx, xy =>
    GL68_4_0 A B (L68_4_0 A B N n) k0 x0 x1 x2 x3 x4 x5 x6 x7 x8 x9 xa xb xc xd xe xf xg xh xi xj xk xl xm xn xo xp xq xr xs xt xu xv xw xx xy

def P93 : List PT := [.us 2, (.bx [(.r (.i .i64)), (.r (.i .i64)), (.r (.i .i64)), (.r (.i .i64)), (.r (.i .i64)), (.r .sn), (.r (.i .i64)), (.r (.i .i64)), (.r .b), (.r .b), (.r .b), (.r .b), (.r .b), (.r .b), (.r .b), (.r .b), (.r .sn), (.r (.i .i64)), (.r (.i .i64))]), (.bx [(.r (.i .i64)), (.r (.i .i64)), (.r (.i .i64)), (.r (.i .i64)), (.r (.i .i64)), (.r .sn), (.r (.i .i64)), (.r (.i .i64)), (.r .b), (.r .b), (.r .b), (.r .b), (.r .b), (.r .b), (.r .b), (.r .b), (.r .sn), (.r (.i .i64)), (.r (.i .i64))]), .us 146]

def S93 (x0 x1 x2 x3 x4 x5 x6 : Int) (x7 x8 x9 xa xb xc xd xe : Bool) (xf xg xh xi xj xk xl xm xn : Int) (xo xp xq xr xs xt xu xv : Bool) (xw xx : Int) : List T := (T.u :: T.u :: (T.bx [(T.r (R.i .i64 x0)), (T.r (R.i .i64 x1)), (T.r (R.i .i64 x2)), (T.r (R.i .i64 x3)), (T.r (R.i .i64 x4)), (T.r R.sn), (T.r (R.i .i64 x5)), (T.r (R.i .i64 x6)), (T.r (R.b x7)), (T.r (R.b x8)), (T.r (R.b x9)), (T.r (R.b xa)), (T.r (R.b xb)), (T.r (R.b xc)), (T.r (R.b xd)), (T.r (R.b xe)), (T.r R.sn), (T.r (R.i .i64 xf)), (T.r (R.i .i64 xg))]) :: (T.bx [(T.r (R.i .i64 xh)), (T.r (R.i .i64 xi)), (T.r (R.i .i64 xj)), (T.r (R.i .i64 xk)), (T.r (R.i .i64 xl)), (T.r R.sn), (T.r (R.i .i64 xm)), (T.r (R.i .i64 xn)), (T.r (R.b xo)), (T.r (R.b xp)), (T.r (R.b xq)), (T.r (R.b xr)), (T.r (R.b xs)), (T.r (R.b xt)), (T.r (R.b xu)), (T.r (R.b xv)), (T.r R.sn), (T.r (R.i .i64 xw)), (T.r (R.i .i64 xx))]) :: T.u :: T.u :: T.u :: T.u :: T.u :: T.u :: T.u :: T.u :: T.u :: T.u :: T.u :: T.u :: T.u :: T.u :: T.u :: T.u :: T.u :: T.u :: T.u :: T.u :: T.u :: T.u :: T.u :: T.u :: T.u :: T.u :: T.u :: T.u :: T.u :: T.u :: T.u :: T.u :: T.u :: T.u :: T.u :: T.u :: T.u :: T.u :: T.u :: T.u :: T.u :: T.u :: T.u :: T.u :: T.u :: T.u :: T.u :: T.u :: T.u :: T.u :: T.u :: T.u :: T.u :: T.u :: T.u :: T.u :: T.u :: T.u :: T.u :: T.u :: T.u :: T.u :: T.u :: T.u :: T.u :: T.u :: T.u :: T.u :: T.u :: T.u :: T.u :: T.u :: T.u :: T.u :: T.u :: T.u :: T.u :: T.u :: T.u :: T.u :: T.u :: T.u :: T.u :: T.u :: T.u :: T.u :: T.u :: T.u :: T.u :: T.u :: T.u :: T.u :: T.u :: T.u :: T.u :: T.u :: T.u :: T.u :: T.u :: T.u :: T.u :: T.u :: T.u :: T.u :: T.u :: T.u :: T.u :: T.u :: T.u :: T.u :: T.u :: T.u :: T.u :: T.u :: T.u :: T.u :: T.u :: T.u :: T.u :: T.u :: T.u :: T.u :: T.u :: T.u :: T.u :: T.u :: T.u :: T.u :: T.u :: T.u :: T.u :: T.u :: T.u :: T.u :: T.u :: T.u :: T.u :: T.u :: T.u :: T.u :: T.u :: T.u :: T.u :: T.u :: T.u :: T.u :: [])

def P94 : List PT := [.us 2, (.bx [(.r (.i .i64)), (.r (.i .i64)), (.r (.i .i64)), (.r (.i .i64)), (.r (.i .i64)), (.r .sn), (.r (.i .i64)), (.r (.i .i64)), (.r .b), (.r .b), (.r .b), (.r .b), (.r .b), (.r .b), (.r .b), (.r .b), (.r .sn), (.r (.i .i64)), (.r (.i .i64))]), (.bx [(.r (.i .i64)), (.r (.i .i64)), (.r (.i .i64)), (.r (.i .i64)), (.r (.i .i64)), (.r .sn), (.r (.i .i64)), (.r (.i .i64)), (.r .b), (.r .b), (.r .b), (.r .b), (.r .b), (.r .b), (.r .b), (.r .b), (.r .sn), (.r (.i .i64)), (.r (.i .i64))]), .us 1, (.r (.i .i64)), .us 144]

noncomputable def M68_4 {β : Type} (l68_4_0 : (Q32 β) → Q33 β) (s : List T) : Option ((Ex → List T → Option β) → Option β) :=
  match gTs P94 (clean ((Hn 68).lp 4).1 s) [] with
  | some (.i x0 :: .i x1 :: .i x2 :: .i x3 :: .i x4 :: .i x5 :: .i x6 :: .b x7 :: .b x8 :: .b x9 :: .b xa :: .b xb :: .b xc :: .b xd :: .b xe :: .i xf :: .i xg :: .i xh :: .i xi :: .i xj :: .i xk :: .i xl :: .i xm :: .i xn :: .b xo :: .b xp :: .b xq :: .b xr :: .b xs :: .b xt :: .b xu :: .b xv :: .i xw :: .i xx :: .i xy :: []) => some fun kk => l68_4_0 (fun xz x10 x11 x12 x13 x14 x15 x16 x17 x18 x19 x1a x1b x1c x1d x1e x1f x1g x1h x1i x1j x1k x1l x1m x1n x1o x1p x1q x1r x1s x1t x1u x1v x1w => kk (Ex.ex 0) (S93 xz x10 x11 x12 x13 x14 x15 x16 x17 x18 x19 x1a x1b x1c x1d x1e x1f x1g x1h x1i x1j x1k x1l x1m x1n x1o x1p x1q x1r x1s x1t x1u x1v x1w)) x0 x1 x2 x3 x4 x5 x6 x7 x8 x9 xa xb xc xd xe xf xg xh xi xj xk xl xm xn xo xp xq xr xs xt xu xv xw xx xy
  | _ => none

theorem e68_4_0 {β : Type} (A : Pr) (B : Pk) (l68_4_0 : (Q32 β) → Q33 β) (x0 x1 x2 x3 x4 x5 x6 : Int) (x7 x8 x9 xa xb xc xd xe : Bool) (xf xg xh xi xj xk xl xm xn : Int) (xo xp xq xr xs xt xu xv : Bool) (xw xx xy : Int) (kk : Ex → List T → Option β) :
    uTs P94 (.i x0 :: .i x1 :: .i x2 :: .i x3 :: .i x4 :: .i x5 :: .i x6 :: .b x7 :: .b x8 :: .b x9 :: .b xa :: .b xb :: .b xc :: .b xd :: .b xe :: .i xf :: .i xg :: .i xh :: .i xi :: .i xj :: .i xk :: .i xl :: .i xm :: .i xn :: .b xo :: .b xp :: .b xq :: .b xr :: .b xs :: .b xt :: .b xu :: .b xv :: .i xw :: .i xx :: .i xy :: []) (fun s _ => evK (mkK Try.prog A B [] [] (Hn 68).pt []) X68_4 s (fun e s' => match e with
      | .nm => (match M68_4 l68_4_0 s' with | some h => h kk | none => none)
      | .ex m => kk (.ex m) (clean ((Hn 68).lp (firstReg X68_4)).2 s')
      | .rt => kk .rt (clean ((Hn 68).lp (firstReg X68_4)).2 s'))) = GL68_4_0 A B l68_4_0 (fun xz x10 x11 x12 x13 x14 x15 x16 x17 x18 x19 x1a x1b x1c x1d x1e x1f x1g x1h x1i x1j x1k x1l x1m x1n x1o x1p x1q x1r x1s x1t x1u x1v x1w => kk (Ex.ex 0) (S93 xz x10 x11 x12 x13 x14 x15 x16 x17 x18 x19 x1a x1b x1c x1d x1e x1f x1g x1h x1i x1j x1k x1l x1m x1n x1o x1p x1q x1r x1s x1t x1u x1v x1w)) x0 x1 x2 x3 x4 x5 x6 x7 x8 x9 xa xb xc xd xe xf xg xh xi xj xk xl xm xn xo xp xq xr xs xt xu xv xw xx xy := by kernel_rfl

theorem ol68_4 {β : Type} (N : Nat) : ∀ n, SndL (β := β) Try.prog Hn (Hn 68) X68_4 (M68_4 (L68_4_0 re rk N n))
  | 0 => by
    intro s h kk r ha hr
    unfold M68_4 at ha
    split at ha
    · cases ha; cases hr
    · cases ha
  | n + 1 => by
    have ih := ol68_4 (β := β) N n
    intro s h kk r ha hr
    unfold M68_4 at ha
    split at ha
    · rename_i hs
      cases ha
      have hk := via_pat hs ((e68_4_0 re rk (L68_4_0 re rk N n) _ _ _ _ _ _ _ _ _ _ _ _ _ _ _ _ _ _ _ _ _ _ _ _ _ _ _ _ _ _ _ _ _ _ _ kk).trans hr)
      exact round_ok (show SndAll Try.prog Hn [] from trivial) (spots := []) (by kernel_rfl) trivial ih (hd := clean ((Hn 68).lp 4).1 s) (by rw [i68_4]) hk
    · cases ha

noncomputable def X68_9 : Code := atF Try.f68 [true, true, true, false, true, false, false]
theorem i68_9 : firstReg X68_9 = 9 := by kernel_rfl

def GL68_9_0 {β : Type} (A : Pr) (B : Pk) (l68_9_0 : (Option β) → Q33 β) (k0 : Option β) (x0 x1 x2 x3 x4 x5 x6 : Int) (x7 x8 x9 xa xb xc xd xe : Bool) (xf xg xh xi xj xk xl xm xn : Int) (xo xp xq xr xs xt xu xv : Bool) (xw xx xy : Int) : Option β :=
    match (A.cm .lss xy (A.on 0)) with
    | true => none
    | false => k0

def L68_9_0 {β : Type} (A : Pr) (B : Pk) (N : Nat) : Nat → (Option β) → Q33 β
  | 0, _, _, _, _, _, _, _, _, _, _, _, _, _, _, _, _, _, _, _, _, _, _, _, _, _, _, _, _, _, _, _, _, _, _, _, _ => none
  | n + 1, k0, x0, x1, x2, x3, x4, x5, x6, x7, x8, x9, xa, xb, xc, xd, xe, xf, xg, xh, xi, xj, xk, xl, xm, xn, xo, xp, xq, xr, xs, xt, xu, xv, xw, xx, xy =>
    GL68_9_0 A B (L68_9_0 A B N n) k0 x0 x1 x2 x3 x4 x5 x6 x7 x8 x9 xa xb xc xd xe xf xg xh xi xj xk xl xm xn xo xp xq xr xs xt xu xv xw xx xy

def P95 : List PT := [.us 150]

def S95  : List T := (T.u :: T.u :: T.u :: T.u :: T.u :: T.u :: T.u :: T.u :: T.u :: T.u :: T.u :: T.u :: T.u :: T.u :: T.u :: T.u :: T.u :: T.u :: T.u :: T.u :: T.u :: T.u :: T.u :: T.u :: T.u :: T.u :: T.u :: T.u :: T.u :: T.u :: T.u :: T.u :: T.u :: T.u :: T.u :: T.u :: T.u :: T.u :: T.u :: T.u :: T.u :: T.u :: T.u :: T.u :: T.u :: T.u :: T.u :: T.u :: T.u :: T.u :: T.u :: T.u :: T.u :: T.u :: T.u :: T.u :: T.u :: T.u :: T.u :: T.u :: T.u :: T.u :: T.u :: T.u :: T.u :: T.u :: T.u :: T.u :: T.u :: T.u :: T.u :: T.u :: T.u :: T.u :: T.u :: T.u :: T.u :: T.u :: T.u :: T.u :: T.u :: T.u :: T.u :: T.u :: T.u :: T.u :: T.u :: T.u :: T.u :: T.u :: T.u :: T.u :: T.u :: T.u :: T.u :: T.u :: T.u :: T.u :: T.u :: T.u :: T.u :: T.u :: T.u :: T.u :: T.u :: T.u :: T.u :: T.u :: T.u :: T.u :: T.u :: T.u :: T.u :: T.u :: T.u :: T.u :: T.u :: T.u :: T.u :: T.u :: T.u :: T.u :: T.u :: T.u :: T.u :: T.u :: T.u :: T.u :: T.u :: T.u :: T.u :: T.u :: T.u :: T.u :: T.u :: T.u :: T.u :: T.u :: T.u :: T.u :: T.u :: T.u :: T.u :: T.u :: T.u :: T.u :: T.u :: T.u :: T.u :: T.u :: [])

def P96 : List PT := [.us 2, (.bx [(.r (.i .i64)), (.r (.i .i64)), (.r (.i .i64)), (.r (.i .i64)), (.r (.i .i64)), (.r .sn), (.r (.i .i64)), (.r (.i .i64)), (.r .b), (.r .b), (.r .b), (.r .b), (.r .b), (.r .b), (.r .b), (.r .b), (.r .sn), (.r (.i .i64)), (.r (.i .i64))]), (.bx [(.r (.i .i64)), (.r (.i .i64)), (.r (.i .i64)), (.r (.i .i64)), (.r (.i .i64)), (.r .sn), (.r (.i .i64)), (.r (.i .i64)), (.r .b), (.r .b), (.r .b), (.r .b), (.r .b), (.r .b), (.r .b), (.r .b), (.r .sn), (.r (.i .i64)), (.r (.i .i64))]), .us 2, (.r (.i .i64)), .us 143]

noncomputable def M68_9 {β : Type} (l68_9_0 : (Option β) → Q33 β) (s : List T) : Option ((Ex → List T → Option β) → Option β) :=
  match gTs P96 (clean ((Hn 68).lp 9).1 s) [] with
  | some (.i x0 :: .i x1 :: .i x2 :: .i x3 :: .i x4 :: .i x5 :: .i x6 :: .b x7 :: .b x8 :: .b x9 :: .b xa :: .b xb :: .b xc :: .b xd :: .b xe :: .i xf :: .i xg :: .i xh :: .i xi :: .i xj :: .i xk :: .i xl :: .i xm :: .i xn :: .b xo :: .b xp :: .b xq :: .b xr :: .b xs :: .b xt :: .b xu :: .b xv :: .i xw :: .i xx :: .i xy :: []) => some fun kk => l68_9_0 (kk (Ex.ex 2) (S95)) x0 x1 x2 x3 x4 x5 x6 x7 x8 x9 xa xb xc xd xe xf xg xh xi xj xk xl xm xn xo xp xq xr xs xt xu xv xw xx xy
  | _ => none

theorem e68_9_0 {β : Type} (A : Pr) (B : Pk) (l68_9_0 : (Option β) → Q33 β) (x0 x1 x2 x3 x4 x5 x6 : Int) (x7 x8 x9 xa xb xc xd xe : Bool) (xf xg xh xi xj xk xl xm xn : Int) (xo xp xq xr xs xt xu xv : Bool) (xw xx xy : Int) (kk : Ex → List T → Option β) :
    uTs P96 (.i x0 :: .i x1 :: .i x2 :: .i x3 :: .i x4 :: .i x5 :: .i x6 :: .b x7 :: .b x8 :: .b x9 :: .b xa :: .b xb :: .b xc :: .b xd :: .b xe :: .i xf :: .i xg :: .i xh :: .i xi :: .i xj :: .i xk :: .i xl :: .i xm :: .i xn :: .b xo :: .b xp :: .b xq :: .b xr :: .b xs :: .b xt :: .b xu :: .b xv :: .i xw :: .i xx :: .i xy :: []) (fun s _ => evK (mkK Try.prog A B [] [] (Hn 68).pt []) X68_9 s (fun e s' => match e with
      | .nm => (match M68_9 l68_9_0 s' with | some h => h kk | none => none)
      | .ex m => kk (.ex m) (clean ((Hn 68).lp (firstReg X68_9)).2 s')
      | .rt => kk .rt (clean ((Hn 68).lp (firstReg X68_9)).2 s'))) = GL68_9_0 A B l68_9_0 (kk (Ex.ex 2) (S95)) x0 x1 x2 x3 x4 x5 x6 x7 x8 x9 xa xb xc xd xe xf xg xh xi xj xk xl xm xn xo xp xq xr xs xt xu xv xw xx xy := by kernel_rfl

theorem ol68_9 {β : Type} (N : Nat) : ∀ n, SndL (β := β) Try.prog Hn (Hn 68) X68_9 (M68_9 (L68_9_0 re rk N n))
  | 0 => by
    intro s h kk r ha hr
    unfold M68_9 at ha
    split at ha
    · cases ha; cases hr
    · cases ha
  | n + 1 => by
    have ih := ol68_9 (β := β) N n
    intro s h kk r ha hr
    unfold M68_9 at ha
    split at ha
    · rename_i hs
      cases ha
      have hk := via_pat hs ((e68_9_0 re rk (L68_9_0 re rk N n) _ _ _ _ _ _ _ _ _ _ _ _ _ _ _ _ _ _ _ _ _ _ _ _ _ _ _ _ _ _ _ _ _ _ _ kk).trans hr)
      exact round_ok (show SndAll Try.prog Hn [] from trivial) (spots := []) (by kernel_rfl) trivial ih (hd := clean ((Hn 68).lp 9).1 s) (by rw [i68_9]) hk
    · cases ha

def G68_0 {β : Type} (A : Pr) (B : Pk) (l68_4_0 : (Q32 β) → Q33 β) (l68_9_0 : (Option β) → Q33 β) (x0 x1 x2 x3 x4 x5 x6 : Int) (x7 x8 x9 xa xb xc xd xe : Bool) (xf xg xh xi xj xk xl xm xn : Int) (xo xp xq xr xs xt xu xv : Bool) (xw xx : Int) (k0 : Bool → Option β) : Option β :=
    match (A.cm .neq x0 xh) with
    | true => (k0 false)
    | false => (match (A.cm .neq x1 xi) with
      | true => (k0 false)
      | false => (match (A.cm .neq x2 xj) with
        | true => (k0 false)
        | false => (match (A.cm .neq x3 xk) with
          | true => (k0 false)
          | false => (match (A.cm .neq x4 xl) with
            | true => (k0 false)
            | false => (match (A.cm .neq x5 xm) with
              | true => (k0 false)
              | false => (match (A.cm .neq x6 xn) with
                | true => (k0 false)
                | false => (match (A.bn (A.ba (A.be x7 xo) (A.ba (A.be x8 xp) (A.ba (A.be x9 xq) (A.ba (A.be xa xr) (A.ba (A.be xb xs) true)))))) with
                  | true => (k0 false)
                  | false => (match (A.bn (A.be xc xt)) with
                    | true => (k0 false)
                    | false => (match (A.bn (A.be xd xu)) with
                      | true => (k0 false)
                      | false => (match (A.bn (A.be xe xv)) with
                        | true => (k0 false)
                        | false => (match (A.cm .neq xf xw) with
                          | true => (k0 false)
                          | false => (match (A.cm .neq xg xx) with
                            | true => (k0 false)
                            | false => (match (A.cm .neq (A.on 0) (A.on 0)) with
                              | true => (k0 false)
                              | false => (match (A.cm .neq (A.on 0) (A.on 0)) with
                                | true => (k0 false)
                                | false => (l68_4_0 (fun xy xz x10 x11 x12 x13 x14 x15 x16 x17 x18 x19 x1a x1b x1c x1d x1e x1f x1g x1h x1i x1j x1k x1l x1m x1n x1o x1p x1q x1r x1s x1t x1u x1v =>
                                  l68_9_0 (k0 true) xy xz x10 x11 x12 x13 x14 x15 x16 x17 x18 x19 x1a x1b x1c x1d x1e x1f x1g x1h x1i x1j x1k x1l x1m x1n x1o x1p x1q x1r x1s x1t x1u x1v 0) x0 x1 x2 x3 x4 x5 x6 x7 x8 x9 xa xb xc xd xe xf xg xh xi xj xk xl xm xn xo xp xq xr xs xt xu xv xw xx 0)))))))))))))))

def F68_0 {β : Type} (A : Pr) (B : Pk) (N : Nat) (x0 x1 x2 x3 x4 x5 x6 : Int) (x7 x8 x9 xa xb xc xd xe : Bool) (xf xg xh xi xj xk xl xm xn : Int) (xo xp xq xr xs xt xu xv : Bool) (xw xx : Int) (k0 : Bool → Option β) : Option β :=
  G68_0 A B (L68_4_0 A B N N) (L68_9_0 A B N N) x0 x1 x2 x3 x4 x5 x6 x7 x8 x9 xa xb xc xd xe xf xg xh xi xj xk xl xm xn xo xp xq xr xs xt xu xv xw xx k0

def P97 : List PT := [(.r (.a [(.i .i64), (.i .i64), (.i .i64), (.i .i64), (.i .i64), .sn, (.i .i64), (.i .i64), .b, .b, .b, .b, .b, .b, .b, .b, .sn, (.i .i64), (.i .i64)])), (.r (.a [(.i .i64), (.i .i64), (.i .i64), (.i .i64), (.i .i64), .sn, (.i .i64), (.i .i64), .b, .b, .b, .b, .b, .b, .b, .b, .sn, (.i .i64), (.i .i64)]))]

def M68_0 {β : Type} (f68_0 : Int → Int → Int → Int → Int → Int → Int → Bool → Bool → Bool → Bool → Bool → Bool → Bool → Bool → Int → Int → Int → Int → Int → Int → Int → Int → Int → Bool → Bool → Bool → Bool → Bool → Bool → Bool → Bool → Int → Int → (Bool → Option β) → Option β) (a : List T) : Option ((T → List (List T) → Option β) → Option β) :=
  match gTs P97 a [] with
  | some (.i x0 :: .i x1 :: .i x2 :: .i x3 :: .i x4 :: .i x5 :: .i x6 :: .b x7 :: .b x8 :: .b x9 :: .b xa :: .b xb :: .b xc :: .b xd :: .b xe :: .i xf :: .i xg :: .i xh :: .i xi :: .i xj :: .i xk :: .i xl :: .i xm :: .i xn :: .b xo :: .b xp :: .b xq :: .b xr :: .b xs :: .b xt :: .b xu :: .b xv :: .i xw :: .i xx :: []) => some fun kk => f68_0 x0 x1 x2 x3 x4 x5 x6 x7 x8 x9 xa xb xc xd xe xf xg xh xi xj xk xl xm xn xo xp xq xr xs xt xu xv xw xx (fun xy => kk (T.r (R.b xy)) [])
  | _ => none

theorem e68_0 {β : Type} (A : Pr) (B : Pk) (l68_4_0 : (Q32 β) → Q33 β) (l68_9_0 : (Option β) → Q33 β) (x0 x1 x2 x3 x4 x5 x6 : Int) (x7 x8 x9 xa xb xc xd xe : Bool) (xf xg xh xi xj xk xl xm xn : Int) (xo xp xq xr xs xt xu xv : Bool) (xw xx : Int) (kk : T → List (List T) → Option β) :
    uTs P97 (.i x0 :: .i x1 :: .i x2 :: .i x3 :: .i x4 :: .i x5 :: .i x6 :: .b x7 :: .b x8 :: .b x9 :: .b xa :: .b xb :: .b xc :: .b xd :: .b xe :: .i xf :: .i xg :: .i xh :: .i xi :: .i xj :: .i xk :: .i xl :: .i xm :: .i xn :: .b xo :: .b xp :: .b xq :: .b xr :: .b xs :: .b xt :: .b xu :: .b xv :: .i xw :: .i xx :: []) (fun a _ => bodyK (mkK Try.prog A B [] [(4, M68_4 l68_4_0), (9, M68_9 l68_9_0)] (Hn 68).pt []) Try.f68 a kk) = G68_0 A B l68_4_0 l68_9_0 x0 x1 x2 x3 x4 x5 x6 x7 x8 x9 xa xb xc xd xe xf xg xh xi xj xk xl xm xn xo xp xq xr xs xt xu xv xw xx (fun xy => kk (T.r (R.b xy)) []) := by kernel_rfl

theorem o68_0 {β : Type} (N : Nat) : Snd (β := β) Try.prog Hn 68 (M68_0 (F68_0 re rk N)) := by
  intro a h kk r ha hr
  unfold M68_0 at ha
  split at ha
  · rename_i hs
    cases ha
    have hk := via_pat hs ((e68_0 re rk (L68_4_0 re rk N N) (L68_9_0 re rk N N) _ _ _ _ _ _ _ _ _ _ _ _ _ _ _ _ _ _ _ _ _ _ _ _ _ _ _ _ _ _ _ _ _ _ kk).trans hr)
    exact fn_ok (f := 68) (fn := Try.f68) (H := Hn) (by kernel_rfl) (show SndAll Try.prog Hn [] from trivial) (spots := [.lp X68_4, .lp X68_9]) (by kernel_rfl) ⟨cut_lp (id := 4) i68_4 (ol68_4 N N) (fun s kk => by kernel_rfl), cut_lp (id := 9) i68_9 (ol68_9 N N) (fun s kk => by kernel_rfl), trivial⟩ hk
  · cases ha

def G35_0 {β : Type} (A : Pr) (B : Pk) (f67_0 : Int → Int → Int → Int → Int → Int → Int → Int → Int → Int → Int → Int → (Bool → Option β) → Option β) (f68_0 : Int → Int → Int → Int → Int → Int → Int → Bool → Bool → Bool → Bool → Bool → Bool → Bool → Bool → Int → Int → Int → Int → Int → Int → Int → Int → Int → Bool → Bool → Bool → Bool → Bool → Bool → Bool → Bool → Int → Int → (Bool → Option β) → Option β) (x0 x1 x2 x3 x4 x5 x6 x7 x8 x9 xa xb xc xd xe xf xg xh xi : Int) (xj xk xl xm xn xo xp xq : Bool) (xr xs xt xu xv xw xx xy xz : Int) (x10 x11 x12 x13 x14 x15 x16 x17 : Bool) (x18 x19 : Int) (k0 : Bool → Bool → Option β) : Option β :=
    f67_0 x0 x1 x2 x3 x4 x5 x6 x7 x8 x9 xa xb (fun x1a =>
    f68_0 xc xd xe xf xg xh xi xj xk xl xm xn xo xp xq xr xs xt xu xv xw xx xy xz x10 x11 x12 x13 x14 x15 x16 x17 x18 x19 (fun x1b =>
      k0 x1a x1b))

def F35_0 {β : Type} (A : Pr) (B : Pk) (N : Nat) (x0 x1 x2 x3 x4 x5 x6 x7 x8 x9 xa xb xc xd xe xf xg xh xi : Int) (xj xk xl xm xn xo xp xq : Bool) (xr xs xt xu xv xw xx xy xz : Int) (x10 x11 x12 x13 x14 x15 x16 x17 : Bool) (x18 x19 : Int) (k0 : Bool → Bool → Option β) : Option β :=
  G35_0 A B (F67_0 A B N) (F68_0 A B N) x0 x1 x2 x3 x4 x5 x6 x7 x8 x9 xa xb xc xd xe xf xg xh xi xj xk xl xm xn xo xp xq xr xs xt xu xv xw xx xy xz x10 x11 x12 x13 x14 x15 x16 x17 x18 x19 k0

def P98 : List PT := [(.r (.a [(.i .i64), (.i .i64), (.i .i64), (.i .i64), (.i .i64), (.i .i64), .sn])), (.r (.a [(.i .i64), (.i .i64), (.i .i64), (.i .i64), (.i .i64), (.i .i64), .sn])), (.r (.a [(.i .i64), (.i .i64), (.i .i64), (.i .i64), (.i .i64), .sn, (.i .i64), (.i .i64), .b, .b, .b, .b, .b, .b, .b, .b, .sn, (.i .i64), (.i .i64)])), (.r (.a [(.i .i64), (.i .i64), (.i .i64), (.i .i64), (.i .i64), .sn, (.i .i64), (.i .i64), .b, .b, .b, .b, .b, .b, .b, .b, .sn, (.i .i64), (.i .i64)]))]

def M35_0 {β : Type} (f35_0 : Int → Int → Int → Int → Int → Int → Int → Int → Int → Int → Int → Int → Int → Int → Int → Int → Int → Int → Int → Bool → Bool → Bool → Bool → Bool → Bool → Bool → Bool → Int → Int → Int → Int → Int → Int → Int → Int → Int → Bool → Bool → Bool → Bool → Bool → Bool → Bool → Bool → Int → Int → (Bool → Bool → Option β) → Option β) (a : List T) : Option ((T → List (List T) → Option β) → Option β) :=
  match gTs P98 a [] with
  | some (.i x0 :: .i x1 :: .i x2 :: .i x3 :: .i x4 :: .i x5 :: .i x6 :: .i x7 :: .i x8 :: .i x9 :: .i xa :: .i xb :: .i xc :: .i xd :: .i xe :: .i xf :: .i xg :: .i xh :: .i xi :: .b xj :: .b xk :: .b xl :: .b xm :: .b xn :: .b xo :: .b xp :: .b xq :: .i xr :: .i xs :: .i xt :: .i xu :: .i xv :: .i xw :: .i xx :: .i xy :: .i xz :: .b x10 :: .b x11 :: .b x12 :: .b x13 :: .b x14 :: .b x15 :: .b x16 :: .b x17 :: .i x18 :: .i x19 :: []) => some fun kk => f35_0 x0 x1 x2 x3 x4 x5 x6 x7 x8 x9 xa xb xc xd xe xf xg xh xi xj xk xl xm xn xo xp xq xr xs xt xu xv xw xx xy xz x10 x11 x12 x13 x14 x15 x16 x17 x18 x19 (fun x1a x1b => kk (T.tp true [(T.r (R.b x1a)), (T.r (R.b x1b))]) [])
  | _ => none

theorem e35_0 {β : Type} (A : Pr) (B : Pk) (f67_0 : Int → Int → Int → Int → Int → Int → Int → Int → Int → Int → Int → Int → (Bool → Option β) → Option β) (f68_0 : Int → Int → Int → Int → Int → Int → Int → Bool → Bool → Bool → Bool → Bool → Bool → Bool → Bool → Int → Int → Int → Int → Int → Int → Int → Int → Int → Bool → Bool → Bool → Bool → Bool → Bool → Bool → Bool → Int → Int → (Bool → Option β) → Option β) (x0 x1 x2 x3 x4 x5 x6 x7 x8 x9 xa xb xc xd xe xf xg xh xi : Int) (xj xk xl xm xn xo xp xq : Bool) (xr xs xt xu xv xw xx xy xz : Int) (x10 x11 x12 x13 x14 x15 x16 x17 : Bool) (x18 x19 : Int) (kk : T → List (List T) → Option β) :
    uTs P98 (.i x0 :: .i x1 :: .i x2 :: .i x3 :: .i x4 :: .i x5 :: .i x6 :: .i x7 :: .i x8 :: .i x9 :: .i xa :: .i xb :: .i xc :: .i xd :: .i xe :: .i xf :: .i xg :: .i xh :: .i xi :: .b xj :: .b xk :: .b xl :: .b xm :: .b xn :: .b xo :: .b xp :: .b xq :: .i xr :: .i xs :: .i xt :: .i xu :: .i xv :: .i xw :: .i xx :: .i xy :: .i xz :: .b x10 :: .b x11 :: .b x12 :: .b x13 :: .b x14 :: .b x15 :: .b x16 :: .b x17 :: .i x18 :: .i x19 :: []) (fun a _ => bodyK (mkK Try.prog A B [(67, M67_0 f67_0), (68, M68_0 f68_0)] [] (Hn 35).pt []) Try.f35 a kk) = G35_0 A B f67_0 f68_0 x0 x1 x2 x3 x4 x5 x6 x7 x8 x9 xa xb xc xd xe xf xg xh xi xj xk xl xm xn xo xp xq xr xs xt xu xv xw xx xy xz x10 x11 x12 x13 x14 x15 x16 x17 x18 x19 (fun x1a x1b => kk (T.tp true [(T.r (R.b x1a)), (T.r (R.b x1b))]) []) := by kernel_rfl

theorem o35_0 {β : Type} (N : Nat) : Snd (β := β) Try.prog Hn 35 (M35_0 (F35_0 re rk N)) := by
  intro a h kk r ha hr
  unfold M35_0 at ha
  split at ha
  · rename_i hs
    cases ha
    have hk := via_pat hs ((e35_0 re rk (F67_0 re rk N) (F68_0 re rk N) _ _ _ _ _ _ _ _ _ _ _ _ _ _ _ _ _ _ _ _ _ _ _ _ _ _ _ _ _ _ _ _ _ _ _ _ _ _ _ _ _ _ _ _ _ _ kk).trans hr)
    exact fn_ok (f := 35) (fn := Try.f35) (H := Hn) (by kernel_rfl) (show SndAll Try.prog Hn [(67, M67_0 (F67_0 re rk N)), (68, M68_0 (F68_0 re rk N))] from ⟨o67_0 N, o68_0 N, trivial⟩) (spots := []) (by kernel_rfl) trivial hk
  · cases ha

def GL67_4t1_0 {β : Type} (A : Pr) (B : Pk) (l67_4t1_0 : (Option β) → Q34 β) (k0 : Option β) (x0 x1 x2 x3 x4 x5 x6 x7 x8 x9 xa xb : Int) (xc : List R) (xd : Int) : Option β :=
    match (A.cm .lss xd (A.on 0)) with
    | true => none
    | false => k0

def L67_4t1_0 {β : Type} (A : Pr) (B : Pk) (N : Nat) : Nat → (Option β) → Q34 β
  | 0, _, _, _, _, _, _, _, _, _, _, _, _, _, _, _ => none
  | n + 1, k0, x0, x1, x2, x3, x4, x5, x6, x7, x8, x9, xa, xb, xc, xd =>
    GL67_4t1_0 A B (L67_4t1_0 A B N n) k0 x0 x1 x2 x3 x4 x5 x6 x7 x8 x9 xa xb xc xd

def P99 : List PT := [.us 2, (.bx [(.r (.i .i64)), (.r (.i .i64)), (.r (.i .i64)), (.r (.i .i64)), (.r (.i .i64)), (.r (.i .i64)), (.r .sn)]), (.bx [(.r (.i .i64)), (.r (.i .i64)), (.r (.i .i64)), (.r (.i .i64)), (.r (.i .i64)), (.r (.i .i64)), (.r (.ro 4))]), .us 1, (.r (.i .i64)), .us 46]

noncomputable def M67_4t1 {β : Type} (l67_4t1_0 : (Option β) → Q34 β) (s : List T) : Option ((Ex → List T → Option β) → Option β) :=
  match gTs P99 (clean ((Hn 67).lp 4).1 s) [] with
  | some [.i x0, .i x1, .i x2, .i x3, .i x4, .i x5, .i x6, .i x7, .i x8, .i x9, .i xa, .i xb, .l xc, .i xd] => some fun kk => l67_4t1_0 (kk (Ex.ex 0) (S90)) x0 x1 x2 x3 x4 x5 x6 x7 x8 x9 xa xb xc xd
  | _ => none

theorem e67_4t1_0 {β : Type} (A : Pr) (B : Pk) (l67_4t1_0 : (Option β) → Q34 β) (x0 x1 x2 x3 x4 x5 x6 x7 x8 x9 xa xb : Int) (xc : List R) (xd : Int) (kk : Ex → List T → Option β) :
    uTs P99 [.i x0, .i x1, .i x2, .i x3, .i x4, .i x5, .i x6, .i x7, .i x8, .i x9, .i xa, .i xb, .l xc, .i xd] (fun s _ => evK (mkK Try.prog A B [] [] (Hn 67).pt []) X67_4 s (fun e s' => match e with
      | .nm => (match M67_4t1 l67_4t1_0 s' with | some h => h kk | none => none)
      | .ex m => kk (.ex m) (clean ((Hn 67).lp (firstReg X67_4)).2 s')
      | .rt => kk .rt (clean ((Hn 67).lp (firstReg X67_4)).2 s'))) = GL67_4t1_0 A B l67_4t1_0 (kk (Ex.ex 0) (S90)) x0 x1 x2 x3 x4 x5 x6 x7 x8 x9 xa xb xc xd := by kernel_rfl

theorem ol67_4t1 {β : Type} (N : Nat) : ∀ n, SndL (β := β) Try.prog Hn (Hn 67) X67_4 (M67_4t1 (L67_4t1_0 re rk N n))
  | 0 => by
    intro s h kk r ha hr
    unfold M67_4t1 at ha
    split at ha
    · cases ha; cases hr
    · cases ha
  | n + 1 => by
    have ih := ol67_4t1 (β := β) N n
    intro s h kk r ha hr
    unfold M67_4t1 at ha
    split at ha
    · rename_i hs
      cases ha
      have hk := via_pat hs ((e67_4t1_0 re rk (L67_4t1_0 re rk N n) _ _ _ _ _ _ _ _ _ _ _ _ _ _ kk).trans hr)
      exact round_ok (show SndAll Try.prog Hn [] from trivial) (spots := []) (by kernel_rfl) trivial ih (hd := clean ((Hn 67).lp 4).1 s) (by rw [i67_4]) hk
    · cases ha

def G67_1 {β : Type} (A : Pr) (B : Pk) (l67_4t1_0 : (Option β) → Q34 β) (x0 x1 x2 x3 x4 x5 x6 x7 x8 x9 xa xb : Int) (xc : List R) (k0 : Bool → Option β) : Option β :=
    match (A.bn (A.ba (A.cm .eql x0 x6) (A.ba (A.cm .eql x1 x7) (A.ba (A.cm .eql x2 x8) (A.ba (A.cm .eql x3 x9) true))))) with
    | true => (k0 false)
    | false => (match (A.cm .neq x4 xa) with
      | true => (k0 false)
      | false => (match (A.cm .neq x5 xb) with
        | true => (k0 false)
        | false => (match (A.cm .neq (A.on 0) (A.on (A.len xc))) with
          | true => (k0 false)
          | false => (l67_4t1_0 (k0 true) x0 x1 x2 x3 x4 x5 x6 x7 x8 x9 xa xb xc 0))))

def F67_1 {β : Type} (A : Pr) (B : Pk) (N : Nat) (x0 x1 x2 x3 x4 x5 x6 x7 x8 x9 xa xb : Int) (xc : List R) (k0 : Bool → Option β) : Option β :=
  G67_1 A B (L67_4t1_0 A B N N) x0 x1 x2 x3 x4 x5 x6 x7 x8 x9 xa xb xc k0

def P100 : List PT := [(.r (.a [(.i .i64), (.i .i64), (.i .i64), (.i .i64), (.i .i64), (.i .i64), .sn])), (.r (.a [(.i .i64), (.i .i64), (.i .i64), (.i .i64), (.i .i64), (.i .i64), (.ro 4)]))]

def M67_1 {β : Type} (f67_1 : Int → Int → Int → Int → Int → Int → Int → Int → Int → Int → Int → Int → List R → (Bool → Option β) → Option β) (a : List T) : Option ((T → List (List T) → Option β) → Option β) :=
  match gTs P100 a [] with
  | some [.i x0, .i x1, .i x2, .i x3, .i x4, .i x5, .i x6, .i x7, .i x8, .i x9, .i xa, .i xb, .l xc] => some fun kk => f67_1 x0 x1 x2 x3 x4 x5 x6 x7 x8 x9 xa xb xc (fun xd => kk (T.r (R.b xd)) [])
  | _ => none

theorem e67_1 {β : Type} (A : Pr) (B : Pk) (l67_4t1_0 : (Option β) → Q34 β) (x0 x1 x2 x3 x4 x5 x6 x7 x8 x9 xa xb : Int) (xc : List R) (kk : T → List (List T) → Option β) :
    uTs P100 [.i x0, .i x1, .i x2, .i x3, .i x4, .i x5, .i x6, .i x7, .i x8, .i x9, .i xa, .i xb, .l xc] (fun a _ => bodyK (mkK Try.prog A B [] [(4, M67_4t1 l67_4t1_0)] (Hn 67).pt []) Try.f67 a kk) = G67_1 A B l67_4t1_0 x0 x1 x2 x3 x4 x5 x6 x7 x8 x9 xa xb xc (fun xd => kk (T.r (R.b xd)) []) := by kernel_rfl

theorem o67_1 {β : Type} (N : Nat) : Snd (β := β) Try.prog Hn 67 (M67_1 (F67_1 re rk N)) := by
  intro a h kk r ha hr
  unfold M67_1 at ha
  split at ha
  · rename_i hs
    cases ha
    have hk := via_pat hs ((e67_1 re rk (L67_4t1_0 re rk N N) _ _ _ _ _ _ _ _ _ _ _ _ _ kk).trans hr)
    exact fn_ok (f := 67) (fn := Try.f67) (H := Hn) (by kernel_rfl) (show SndAll Try.prog Hn [] from trivial) (spots := [.lp X67_4]) (by kernel_rfl) ⟨cut_lp (id := 4) i67_4 (ol67_4t1 N N) (fun s kk => by kernel_rfl), trivial⟩ hk
  · cases ha

def G35_1 {β : Type} (A : Pr) (B : Pk) (f67_1 : Int → Int → Int → Int → Int → Int → Int → Int → Int → Int → Int → Int → List R → (Bool → Option β) → Option β) (f68_0 : Int → Int → Int → Int → Int → Int → Int → Bool → Bool → Bool → Bool → Bool → Bool → Bool → Bool → Int → Int → Int → Int → Int → Int → Int → Int → Int → Bool → Bool → Bool → Bool → Bool → Bool → Bool → Bool → Int → Int → (Bool → Option β) → Option β) (x0 x1 x2 x3 x4 x5 x6 x7 x8 x9 xa xb : Int) (xc : List R) (xd xe xf xg xh xi xj : Int) (xk xl xm xn xo xp xq xr : Bool) (xs xt xu xv xw xx xy xz x10 : Int) (x11 x12 x13 x14 x15 x16 x17 x18 : Bool) (x19 x1a : Int) (k0 : Bool → Bool → Option β) : Option β :=
    f67_1 x0 x1 x2 x3 x4 x5 x6 x7 x8 x9 xa xb xc (fun x1b =>
    f68_0 xd xe xf xg xh xi xj xk xl xm xn xo xp xq xr xs xt xu xv xw xx xy xz x10 x11 x12 x13 x14 x15 x16 x17 x18 x19 x1a (fun x1c =>
      k0 x1b x1c))

def F35_1 {β : Type} (A : Pr) (B : Pk) (N : Nat) (x0 x1 x2 x3 x4 x5 x6 x7 x8 x9 xa xb : Int) (xc : List R) (xd xe xf xg xh xi xj : Int) (xk xl xm xn xo xp xq xr : Bool) (xs xt xu xv xw xx xy xz x10 : Int) (x11 x12 x13 x14 x15 x16 x17 x18 : Bool) (x19 x1a : Int) (k0 : Bool → Bool → Option β) : Option β :=
  G35_1 A B (F67_1 A B N) (F68_0 A B N) x0 x1 x2 x3 x4 x5 x6 x7 x8 x9 xa xb xc xd xe xf xg xh xi xj xk xl xm xn xo xp xq xr xs xt xu xv xw xx xy xz x10 x11 x12 x13 x14 x15 x16 x17 x18 x19 x1a k0

def P101 : List PT := [(.r (.a [(.i .i64), (.i .i64), (.i .i64), (.i .i64), (.i .i64), (.i .i64), .sn])), (.r (.a [(.i .i64), (.i .i64), (.i .i64), (.i .i64), (.i .i64), (.i .i64), (.ro 4)])), (.r (.a [(.i .i64), (.i .i64), (.i .i64), (.i .i64), (.i .i64), .sn, (.i .i64), (.i .i64), .b, .b, .b, .b, .b, .b, .b, .b, .sn, (.i .i64), (.i .i64)])), (.r (.a [(.i .i64), (.i .i64), (.i .i64), (.i .i64), (.i .i64), .sn, (.i .i64), (.i .i64), .b, .b, .b, .b, .b, .b, .b, .b, .sn, (.i .i64), (.i .i64)]))]

def M35_1 {β : Type} (f35_1 : Int → Int → Int → Int → Int → Int → Int → Int → Int → Int → Int → Int → List R → Int → Int → Int → Int → Int → Int → Int → Bool → Bool → Bool → Bool → Bool → Bool → Bool → Bool → Int → Int → Int → Int → Int → Int → Int → Int → Int → Bool → Bool → Bool → Bool → Bool → Bool → Bool → Bool → Int → Int → (Bool → Bool → Option β) → Option β) (a : List T) : Option ((T → List (List T) → Option β) → Option β) :=
  match gTs P101 a [] with
  | some (.i x0 :: .i x1 :: .i x2 :: .i x3 :: .i x4 :: .i x5 :: .i x6 :: .i x7 :: .i x8 :: .i x9 :: .i xa :: .i xb :: .l xc :: .i xd :: .i xe :: .i xf :: .i xg :: .i xh :: .i xi :: .i xj :: .b xk :: .b xl :: .b xm :: .b xn :: .b xo :: .b xp :: .b xq :: .b xr :: .i xs :: .i xt :: .i xu :: .i xv :: .i xw :: .i xx :: .i xy :: .i xz :: .i x10 :: .b x11 :: .b x12 :: .b x13 :: .b x14 :: .b x15 :: .b x16 :: .b x17 :: .b x18 :: .i x19 :: .i x1a :: []) => some fun kk => f35_1 x0 x1 x2 x3 x4 x5 x6 x7 x8 x9 xa xb xc xd xe xf xg xh xi xj xk xl xm xn xo xp xq xr xs xt xu xv xw xx xy xz x10 x11 x12 x13 x14 x15 x16 x17 x18 x19 x1a (fun x1b x1c => kk (T.tp true [(T.r (R.b x1b)), (T.r (R.b x1c))]) [])
  | _ => none

theorem e35_1 {β : Type} (A : Pr) (B : Pk) (f67_1 : Int → Int → Int → Int → Int → Int → Int → Int → Int → Int → Int → Int → List R → (Bool → Option β) → Option β) (f68_0 : Int → Int → Int → Int → Int → Int → Int → Bool → Bool → Bool → Bool → Bool → Bool → Bool → Bool → Int → Int → Int → Int → Int → Int → Int → Int → Int → Bool → Bool → Bool → Bool → Bool → Bool → Bool → Bool → Int → Int → (Bool → Option β) → Option β) (x0 x1 x2 x3 x4 x5 x6 x7 x8 x9 xa xb : Int) (xc : List R) (xd xe xf xg xh xi xj : Int) (xk xl xm xn xo xp xq xr : Bool) (xs xt xu xv xw xx xy xz x10 : Int) (x11 x12 x13 x14 x15 x16 x17 x18 : Bool) (x19 x1a : Int) (kk : T → List (List T) → Option β) :
    uTs P101 (.i x0 :: .i x1 :: .i x2 :: .i x3 :: .i x4 :: .i x5 :: .i x6 :: .i x7 :: .i x8 :: .i x9 :: .i xa :: .i xb :: .l xc :: .i xd :: .i xe :: .i xf :: .i xg :: .i xh :: .i xi :: .i xj :: .b xk :: .b xl :: .b xm :: .b xn :: .b xo :: .b xp :: .b xq :: .b xr :: .i xs :: .i xt :: .i xu :: .i xv :: .i xw :: .i xx :: .i xy :: .i xz :: .i x10 :: .b x11 :: .b x12 :: .b x13 :: .b x14 :: .b x15 :: .b x16 :: .b x17 :: .b x18 :: .i x19 :: .i x1a :: []) (fun a _ => bodyK (mkK Try.prog A B [(67, M67_1 f67_1), (68, M68_0 f68_0)] [] (Hn 35).pt []) Try.f35 a kk) = G35_1 A B f67_1 f68_0 x0 x1 x2 x3 x4 x5 x6 x7 x8 x9 xa xb xc xd xe xf xg xh xi xj xk xl xm xn xo xp xq xr xs xt xu xv xw xx xy xz x10 x11 x12 x13 x14 x15 x16 x17 x18 x19 x1a (fun x1b x1c => kk (T.tp true [(T.r (R.b x1b)), (T.r (R.b x1c))]) []) := by kernel_rfl

theorem o35_1 {β : Type} (N : Nat) : Snd (β := β) Try.prog Hn 35 (M35_1 (F35_1 re rk N)) := by
  intro a h kk r ha hr
  unfold M35_1 at ha
  split at ha
  · rename_i hs
    cases ha
    have hk := via_pat hs ((e35_1 re rk (F67_1 re rk N) (F68_0 re rk N) _ _ _ _ _ _ _ _ _ _ _ _ _ _ _ _ _ _ _ _ _ _ _ _ _ _ _ _ _ _ _ _ _ _ _ _ _ _ _ _ _ _ _ _ _ _ _ kk).trans hr)
    exact fn_ok (f := 35) (fn := Try.f35) (H := Hn) (by kernel_rfl) (show SndAll Try.prog Hn [(67, M67_1 (F67_1 re rk N)), (68, M68_0 (F68_0 re rk N))] from ⟨o67_1 N, o68_0 N, trivial⟩) (spots := []) (by kernel_rfl) trivial hk
  · cases ha

def GL67_4t2_0 {β : Type} (A : Pr) (B : Pk) (l67_4t2_0 : (Option β) → Q35 β) (k0 : Option β) (x0 x1 x2 x3 x4 x5 : Int) (x6 : List R) (x7 x8 x9 xa xb xc xd : Int) : Option β :=
    match (A.cm .lss xd (A.on (A.len x6))) with
    | true => (match (A.ix xd (A.len x6)) with
      | some xe => (match (B.okE [(Sh.i .i64), Sh.b, (Sh.i .i64), (Sh.i .i64)] true x6 xe) with
        | true => none
        | false => none)
      | none => none)
    | false => k0

def L67_4t2_0 {β : Type} (A : Pr) (B : Pk) (N : Nat) : Nat → (Option β) → Q35 β
  | 0, _, _, _, _, _, _, _, _, _, _, _, _, _, _, _ => none
  | n + 1, k0, x0, x1, x2, x3, x4, x5, x6, x7, x8, x9, xa, xb, xc, xd =>
    GL67_4t2_0 A B (L67_4t2_0 A B N n) k0 x0 x1 x2 x3 x4 x5 x6 x7 x8 x9 xa xb xc xd

def P102 : List PT := [.us 2, (.bx [(.r (.i .i64)), (.r (.i .i64)), (.r (.i .i64)), (.r (.i .i64)), (.r (.i .i64)), (.r (.i .i64)), (.r (.ro 4))]), (.bx [(.r (.i .i64)), (.r (.i .i64)), (.r (.i .i64)), (.r (.i .i64)), (.r (.i .i64)), (.r (.i .i64)), (.r .sn)]), .us 1, (.r (.i .i64)), .us 46]

noncomputable def M67_4t2 {β : Type} (l67_4t2_0 : (Option β) → Q35 β) (s : List T) : Option ((Ex → List T → Option β) → Option β) :=
  match gTs P102 (clean ((Hn 67).lp 4).1 s) [] with
  | some [.i x0, .i x1, .i x2, .i x3, .i x4, .i x5, .l x6, .i x7, .i x8, .i x9, .i xa, .i xb, .i xc, .i xd] => some fun kk => l67_4t2_0 (kk (Ex.ex 0) (S90)) x0 x1 x2 x3 x4 x5 x6 x7 x8 x9 xa xb xc xd
  | _ => none

theorem e67_4t2_0 {β : Type} (A : Pr) (B : Pk) (l67_4t2_0 : (Option β) → Q35 β) (x0 x1 x2 x3 x4 x5 : Int) (x6 : List R) (x7 x8 x9 xa xb xc xd : Int) (kk : Ex → List T → Option β) :
    uTs P102 [.i x0, .i x1, .i x2, .i x3, .i x4, .i x5, .l x6, .i x7, .i x8, .i x9, .i xa, .i xb, .i xc, .i xd] (fun s _ => evK (mkK Try.prog A B [] [] (Hn 67).pt []) X67_4 s (fun e s' => match e with
      | .nm => (match M67_4t2 l67_4t2_0 s' with | some h => h kk | none => none)
      | .ex m => kk (.ex m) (clean ((Hn 67).lp (firstReg X67_4)).2 s')
      | .rt => kk .rt (clean ((Hn 67).lp (firstReg X67_4)).2 s'))) = GL67_4t2_0 A B l67_4t2_0 (kk (Ex.ex 0) (S90)) x0 x1 x2 x3 x4 x5 x6 x7 x8 x9 xa xb xc xd := by kernel_rfl

theorem ol67_4t2 {β : Type} (N : Nat) : ∀ n, SndL (β := β) Try.prog Hn (Hn 67) X67_4 (M67_4t2 (L67_4t2_0 re rk N n))
  | 0 => by
    intro s h kk r ha hr
    unfold M67_4t2 at ha
    split at ha
    · cases ha; cases hr
    · cases ha
  | n + 1 => by
    have ih := ol67_4t2 (β := β) N n
    intro s h kk r ha hr
    unfold M67_4t2 at ha
    split at ha
    · rename_i hs
      cases ha
      have hk := via_pat hs ((e67_4t2_0 re rk (L67_4t2_0 re rk N n) _ _ _ _ _ _ _ _ _ _ _ _ _ _ kk).trans hr)
      exact round_ok (show SndAll Try.prog Hn [] from trivial) (spots := []) (by kernel_rfl) trivial ih (hd := clean ((Hn 67).lp 4).1 s) (by rw [i67_4]) hk
    · cases ha

def G67_2 {β : Type} (A : Pr) (B : Pk) (l67_4t2_0 : (Option β) → Q35 β) (x0 x1 x2 x3 x4 x5 : Int) (x6 : List R) (x7 x8 x9 xa xb xc : Int) (k0 : Bool → Option β) : Option β :=
    match (A.bn (A.ba (A.cm .eql x0 x7) (A.ba (A.cm .eql x1 x8) (A.ba (A.cm .eql x2 x9) (A.ba (A.cm .eql x3 xa) true))))) with
    | true => (k0 false)
    | false => (match (A.cm .neq x4 xb) with
      | true => (k0 false)
      | false => (match (A.cm .neq x5 xc) with
        | true => (k0 false)
        | false => (match (A.cm .neq (A.on (A.len x6)) (A.on 0)) with
          | true => (k0 false)
          | false => (l67_4t2_0 (k0 true) x0 x1 x2 x3 x4 x5 x6 x7 x8 x9 xa xb xc 0))))

def F67_2 {β : Type} (A : Pr) (B : Pk) (N : Nat) (x0 x1 x2 x3 x4 x5 : Int) (x6 : List R) (x7 x8 x9 xa xb xc : Int) (k0 : Bool → Option β) : Option β :=
  G67_2 A B (L67_4t2_0 A B N N) x0 x1 x2 x3 x4 x5 x6 x7 x8 x9 xa xb xc k0

def P103 : List PT := [(.r (.a [(.i .i64), (.i .i64), (.i .i64), (.i .i64), (.i .i64), (.i .i64), (.ro 4)])), (.r (.a [(.i .i64), (.i .i64), (.i .i64), (.i .i64), (.i .i64), (.i .i64), .sn]))]

def M67_2 {β : Type} (f67_2 : Int → Int → Int → Int → Int → Int → List R → Int → Int → Int → Int → Int → Int → (Bool → Option β) → Option β) (a : List T) : Option ((T → List (List T) → Option β) → Option β) :=
  match gTs P103 a [] with
  | some [.i x0, .i x1, .i x2, .i x3, .i x4, .i x5, .l x6, .i x7, .i x8, .i x9, .i xa, .i xb, .i xc] => some fun kk => f67_2 x0 x1 x2 x3 x4 x5 x6 x7 x8 x9 xa xb xc (fun xd => kk (T.r (R.b xd)) [])
  | _ => none

theorem e67_2 {β : Type} (A : Pr) (B : Pk) (l67_4t2_0 : (Option β) → Q35 β) (x0 x1 x2 x3 x4 x5 : Int) (x6 : List R) (x7 x8 x9 xa xb xc : Int) (kk : T → List (List T) → Option β) :
    uTs P103 [.i x0, .i x1, .i x2, .i x3, .i x4, .i x5, .l x6, .i x7, .i x8, .i x9, .i xa, .i xb, .i xc] (fun a _ => bodyK (mkK Try.prog A B [] [(4, M67_4t2 l67_4t2_0)] (Hn 67).pt []) Try.f67 a kk) = G67_2 A B l67_4t2_0 x0 x1 x2 x3 x4 x5 x6 x7 x8 x9 xa xb xc (fun xd => kk (T.r (R.b xd)) []) := by kernel_rfl

theorem o67_2 {β : Type} (N : Nat) : Snd (β := β) Try.prog Hn 67 (M67_2 (F67_2 re rk N)) := by
  intro a h kk r ha hr
  unfold M67_2 at ha
  split at ha
  · rename_i hs
    cases ha
    have hk := via_pat hs ((e67_2 re rk (L67_4t2_0 re rk N N) _ _ _ _ _ _ _ _ _ _ _ _ _ kk).trans hr)
    exact fn_ok (f := 67) (fn := Try.f67) (H := Hn) (by kernel_rfl) (show SndAll Try.prog Hn [] from trivial) (spots := [.lp X67_4]) (by kernel_rfl) ⟨cut_lp (id := 4) i67_4 (ol67_4t2 N N) (fun s kk => by kernel_rfl), trivial⟩ hk
  · cases ha

def G35_2 {β : Type} (A : Pr) (B : Pk) (f67_2 : Int → Int → Int → Int → Int → Int → List R → Int → Int → Int → Int → Int → Int → (Bool → Option β) → Option β) (f68_0 : Int → Int → Int → Int → Int → Int → Int → Bool → Bool → Bool → Bool → Bool → Bool → Bool → Bool → Int → Int → Int → Int → Int → Int → Int → Int → Int → Bool → Bool → Bool → Bool → Bool → Bool → Bool → Bool → Int → Int → (Bool → Option β) → Option β) (x0 x1 x2 x3 x4 x5 : Int) (x6 : List R) (x7 x8 x9 xa xb xc xd xe xf xg xh xi xj : Int) (xk xl xm xn xo xp xq xr : Bool) (xs xt xu xv xw xx xy xz x10 : Int) (x11 x12 x13 x14 x15 x16 x17 x18 : Bool) (x19 x1a : Int) (k0 : Bool → Bool → Option β) : Option β :=
    f67_2 x0 x1 x2 x3 x4 x5 x6 x7 x8 x9 xa xb xc (fun x1b =>
    f68_0 xd xe xf xg xh xi xj xk xl xm xn xo xp xq xr xs xt xu xv xw xx xy xz x10 x11 x12 x13 x14 x15 x16 x17 x18 x19 x1a (fun x1c =>
      k0 x1b x1c))

def F35_2 {β : Type} (A : Pr) (B : Pk) (N : Nat) (x0 x1 x2 x3 x4 x5 : Int) (x6 : List R) (x7 x8 x9 xa xb xc xd xe xf xg xh xi xj : Int) (xk xl xm xn xo xp xq xr : Bool) (xs xt xu xv xw xx xy xz x10 : Int) (x11 x12 x13 x14 x15 x16 x17 x18 : Bool) (x19 x1a : Int) (k0 : Bool → Bool → Option β) : Option β :=
  G35_2 A B (F67_2 A B N) (F68_0 A B N) x0 x1 x2 x3 x4 x5 x6 x7 x8 x9 xa xb xc xd xe xf xg xh xi xj xk xl xm xn xo xp xq xr xs xt xu xv xw xx xy xz x10 x11 x12 x13 x14 x15 x16 x17 x18 x19 x1a k0

def P104 : List PT := [(.r (.a [(.i .i64), (.i .i64), (.i .i64), (.i .i64), (.i .i64), (.i .i64), (.ro 4)])), (.r (.a [(.i .i64), (.i .i64), (.i .i64), (.i .i64), (.i .i64), (.i .i64), .sn])), (.r (.a [(.i .i64), (.i .i64), (.i .i64), (.i .i64), (.i .i64), .sn, (.i .i64), (.i .i64), .b, .b, .b, .b, .b, .b, .b, .b, .sn, (.i .i64), (.i .i64)])), (.r (.a [(.i .i64), (.i .i64), (.i .i64), (.i .i64), (.i .i64), .sn, (.i .i64), (.i .i64), .b, .b, .b, .b, .b, .b, .b, .b, .sn, (.i .i64), (.i .i64)]))]

def M35_2 {β : Type} (f35_2 : Int → Int → Int → Int → Int → Int → List R → Int → Int → Int → Int → Int → Int → Int → Int → Int → Int → Int → Int → Int → Bool → Bool → Bool → Bool → Bool → Bool → Bool → Bool → Int → Int → Int → Int → Int → Int → Int → Int → Int → Bool → Bool → Bool → Bool → Bool → Bool → Bool → Bool → Int → Int → (Bool → Bool → Option β) → Option β) (a : List T) : Option ((T → List (List T) → Option β) → Option β) :=
  match gTs P104 a [] with
  | some (.i x0 :: .i x1 :: .i x2 :: .i x3 :: .i x4 :: .i x5 :: .l x6 :: .i x7 :: .i x8 :: .i x9 :: .i xa :: .i xb :: .i xc :: .i xd :: .i xe :: .i xf :: .i xg :: .i xh :: .i xi :: .i xj :: .b xk :: .b xl :: .b xm :: .b xn :: .b xo :: .b xp :: .b xq :: .b xr :: .i xs :: .i xt :: .i xu :: .i xv :: .i xw :: .i xx :: .i xy :: .i xz :: .i x10 :: .b x11 :: .b x12 :: .b x13 :: .b x14 :: .b x15 :: .b x16 :: .b x17 :: .b x18 :: .i x19 :: .i x1a :: []) => some fun kk => f35_2 x0 x1 x2 x3 x4 x5 x6 x7 x8 x9 xa xb xc xd xe xf xg xh xi xj xk xl xm xn xo xp xq xr xs xt xu xv xw xx xy xz x10 x11 x12 x13 x14 x15 x16 x17 x18 x19 x1a (fun x1b x1c => kk (T.tp true [(T.r (R.b x1b)), (T.r (R.b x1c))]) [])
  | _ => none

theorem e35_2 {β : Type} (A : Pr) (B : Pk) (f67_2 : Int → Int → Int → Int → Int → Int → List R → Int → Int → Int → Int → Int → Int → (Bool → Option β) → Option β) (f68_0 : Int → Int → Int → Int → Int → Int → Int → Bool → Bool → Bool → Bool → Bool → Bool → Bool → Bool → Int → Int → Int → Int → Int → Int → Int → Int → Int → Bool → Bool → Bool → Bool → Bool → Bool → Bool → Bool → Int → Int → (Bool → Option β) → Option β) (x0 x1 x2 x3 x4 x5 : Int) (x6 : List R) (x7 x8 x9 xa xb xc xd xe xf xg xh xi xj : Int) (xk xl xm xn xo xp xq xr : Bool) (xs xt xu xv xw xx xy xz x10 : Int) (x11 x12 x13 x14 x15 x16 x17 x18 : Bool) (x19 x1a : Int) (kk : T → List (List T) → Option β) :
    uTs P104 (.i x0 :: .i x1 :: .i x2 :: .i x3 :: .i x4 :: .i x5 :: .l x6 :: .i x7 :: .i x8 :: .i x9 :: .i xa :: .i xb :: .i xc :: .i xd :: .i xe :: .i xf :: .i xg :: .i xh :: .i xi :: .i xj :: .b xk :: .b xl :: .b xm :: .b xn :: .b xo :: .b xp :: .b xq :: .b xr :: .i xs :: .i xt :: .i xu :: .i xv :: .i xw :: .i xx :: .i xy :: .i xz :: .i x10 :: .b x11 :: .b x12 :: .b x13 :: .b x14 :: .b x15 :: .b x16 :: .b x17 :: .b x18 :: .i x19 :: .i x1a :: []) (fun a _ => bodyK (mkK Try.prog A B [(67, M67_2 f67_2), (68, M68_0 f68_0)] [] (Hn 35).pt []) Try.f35 a kk) = G35_2 A B f67_2 f68_0 x0 x1 x2 x3 x4 x5 x6 x7 x8 x9 xa xb xc xd xe xf xg xh xi xj xk xl xm xn xo xp xq xr xs xt xu xv xw xx xy xz x10 x11 x12 x13 x14 x15 x16 x17 x18 x19 x1a (fun x1b x1c => kk (T.tp true [(T.r (R.b x1b)), (T.r (R.b x1c))]) []) := by kernel_rfl

theorem o35_2 {β : Type} (N : Nat) : Snd (β := β) Try.prog Hn 35 (M35_2 (F35_2 re rk N)) := by
  intro a h kk r ha hr
  unfold M35_2 at ha
  split at ha
  · rename_i hs
    cases ha
    have hk := via_pat hs ((e35_2 re rk (F67_2 re rk N) (F68_0 re rk N) _ _ _ _ _ _ _ _ _ _ _ _ _ _ _ _ _ _ _ _ _ _ _ _ _ _ _ _ _ _ _ _ _ _ _ _ _ _ _ _ _ _ _ _ _ _ _ kk).trans hr)
    exact fn_ok (f := 35) (fn := Try.f35) (H := Hn) (by kernel_rfl) (show SndAll Try.prog Hn [(67, M67_2 (F67_2 re rk N)), (68, M68_0 (F68_0 re rk N))] from ⟨o67_2 N, o68_0 N, trivial⟩) (spots := []) (by kernel_rfl) trivial hk
  · cases ha

def GL67_4t3_0 {β : Type} (A : Pr) (B : Pk) (l67_4t3_0 : (Bool → Option β) → (Option β) → Q36 β) (k0 : Bool → Option β) (k1 : Option β) (x0 x1 x2 x3 x4 x5 : Int) (x6 : List R) (x7 x8 x9 xa xb xc : Int) (xd : List R) (xe : Int) : Option β :=
    match (A.cm .lss xe (A.on (A.len x6))) with
    | true => (match (A.ix xe (A.len x6)) with
      | some xf => (match (B.okE [(Sh.i .i64), Sh.b, (Sh.i .i64), (Sh.i .i64)] true x6 xf) with
        | true => (match (A.ix xe (A.len xd)) with
          | some xg => (match (B.okE [(Sh.i .i64), Sh.b, (Sh.i .i64), (Sh.i .i64)] true xd xg) with
            | true => (match (A.bn (A.ba (A.cm .eql (B.ci x6 xf 0) (B.ci xd xg 0)) (A.ba (A.be (B.cb x6 xf 1) (B.cb xd xg 1)) (A.ba (A.cm .eql (B.ci x6 xf 2) (B.ci xd xg 2)) (A.ba (A.cm .eql (B.ci x6 xf 3) (B.ci xd xg 3)) true))))) with
              | true => (k0 false)
              | false => (l67_4t3_0 k0 k1 x0 x1 x2 x3 x4 x5 x6 x7 x8 x9 xa xb xc xd (A.ar .add .i64 xe 1)))
            | false => none)
          | none => none)
        | false => none)
      | none => none)
    | false => k1

def L67_4t3_0 {β : Type} (A : Pr) (B : Pk) (N : Nat) : Nat → (Bool → Option β) → (Option β) → Q36 β
  | 0, _, _, _, _, _, _, _, _, _, _, _, _, _, _, _, _, _ => none
  | n + 1, k0, k1, x0, x1, x2, x3, x4, x5, x6, x7, x8, x9, xa, xb, xc, xd, xe =>
    GL67_4t3_0 A B (L67_4t3_0 A B N n) k0 k1 x0 x1 x2 x3 x4 x5 x6 x7 x8 x9 xa xb xc xd xe

def P105 : List PT := [.us 4, (.r .b), .us 47]

def S105 (x0 : Bool) : List T := (T.u :: T.u :: T.u :: T.u :: (T.r (R.b x0)) :: T.u :: T.u :: T.u :: T.u :: T.u :: T.u :: T.u :: T.u :: T.u :: T.u :: T.u :: T.u :: T.u :: T.u :: T.u :: T.u :: T.u :: T.u :: T.u :: T.u :: T.u :: T.u :: T.u :: T.u :: T.u :: T.u :: T.u :: T.u :: T.u :: T.u :: T.u :: T.u :: T.u :: T.u :: T.u :: T.u :: T.u :: T.u :: T.u :: T.u :: T.u :: T.u :: T.u :: T.u :: T.u :: T.u :: T.u :: [])

def P106 : List PT := [.us 2, (.bx [(.r (.i .i64)), (.r (.i .i64)), (.r (.i .i64)), (.r (.i .i64)), (.r (.i .i64)), (.r (.i .i64)), (.r (.ro 4))]), (.bx [(.r (.i .i64)), (.r (.i .i64)), (.r (.i .i64)), (.r (.i .i64)), (.r (.i .i64)), (.r (.i .i64)), (.r (.ro 4))]), .us 1, (.r (.i .i64)), .us 46]

noncomputable def M67_4t3 {β : Type} (l67_4t3_0 : (Bool → Option β) → (Option β) → Q36 β) (s : List T) : Option ((Ex → List T → Option β) → Option β) :=
  match gTs P106 (clean ((Hn 67).lp 4).1 s) [] with
  | some [.i x0, .i x1, .i x2, .i x3, .i x4, .i x5, .l x6, .i x7, .i x8, .i x9, .i xa, .i xb, .i xc, .l xd, .i xe] => some fun kk => l67_4t3_0 (fun xf => kk Ex.rt (S105 xf)) (kk (Ex.ex 0) (S90)) x0 x1 x2 x3 x4 x5 x6 x7 x8 x9 xa xb xc xd xe
  | _ => none

theorem e67_4t3_0 {β : Type} (A : Pr) (B : Pk) (l67_4t3_0 : (Bool → Option β) → (Option β) → Q36 β) (x0 x1 x2 x3 x4 x5 : Int) (x6 : List R) (x7 x8 x9 xa xb xc : Int) (xd : List R) (xe : Int) (kk : Ex → List T → Option β) :
    uTs P106 [.i x0, .i x1, .i x2, .i x3, .i x4, .i x5, .l x6, .i x7, .i x8, .i x9, .i xa, .i xb, .i xc, .l xd, .i xe] (fun s _ => evK (mkK Try.prog A B [] [] (Hn 67).pt []) X67_4 s (fun e s' => match e with
      | .nm => (match M67_4t3 l67_4t3_0 s' with | some h => h kk | none => none)
      | .ex m => kk (.ex m) (clean ((Hn 67).lp (firstReg X67_4)).2 s')
      | .rt => kk .rt (clean ((Hn 67).lp (firstReg X67_4)).2 s'))) = GL67_4t3_0 A B l67_4t3_0 (fun xf => kk Ex.rt (S105 xf)) (kk (Ex.ex 0) (S90)) x0 x1 x2 x3 x4 x5 x6 x7 x8 x9 xa xb xc xd xe := by kernel_rfl

theorem ol67_4t3 {β : Type} (N : Nat) : ∀ n, SndL (β := β) Try.prog Hn (Hn 67) X67_4 (M67_4t3 (L67_4t3_0 re rk N n))
  | 0 => by
    intro s h kk r ha hr
    unfold M67_4t3 at ha
    split at ha
    · cases ha; cases hr
    · cases ha
  | n + 1 => by
    have ih := ol67_4t3 (β := β) N n
    intro s h kk r ha hr
    unfold M67_4t3 at ha
    split at ha
    · rename_i hs
      cases ha
      have hk := via_pat hs ((e67_4t3_0 re rk (L67_4t3_0 re rk N n) _ _ _ _ _ _ _ _ _ _ _ _ _ _ _ kk).trans hr)
      exact round_ok (show SndAll Try.prog Hn [] from trivial) (spots := []) (by kernel_rfl) trivial ih (hd := clean ((Hn 67).lp 4).1 s) (by rw [i67_4]) hk
    · cases ha

def G67_3 {β : Type} (A : Pr) (B : Pk) (l67_4t3_0 : (Bool → Option β) → (Option β) → Q36 β) (x0 x1 x2 x3 x4 x5 : Int) (x6 : List R) (x7 x8 x9 xa xb xc : Int) (xd : List R) (k0 : Bool → Option β) : Option β :=
    match (A.bn (A.ba (A.cm .eql x0 x7) (A.ba (A.cm .eql x1 x8) (A.ba (A.cm .eql x2 x9) (A.ba (A.cm .eql x3 xa) true))))) with
    | true => (k0 false)
    | false => (match (A.cm .neq x4 xb) with
      | true => (k0 false)
      | false => (match (A.cm .neq x5 xc) with
        | true => (k0 false)
        | false => (match (A.cm .neq (A.on (A.len x6)) (A.on (A.len xd))) with
          | true => (k0 false)
          | false => (l67_4t3_0 (fun xe =>
            k0 xe) (k0 true) x0 x1 x2 x3 x4 x5 x6 x7 x8 x9 xa xb xc xd 0))))

def F67_3 {β : Type} (A : Pr) (B : Pk) (N : Nat) (x0 x1 x2 x3 x4 x5 : Int) (x6 : List R) (x7 x8 x9 xa xb xc : Int) (xd : List R) (k0 : Bool → Option β) : Option β :=
  G67_3 A B (L67_4t3_0 A B N N) x0 x1 x2 x3 x4 x5 x6 x7 x8 x9 xa xb xc xd k0

def P107 : List PT := [(.r (.a [(.i .i64), (.i .i64), (.i .i64), (.i .i64), (.i .i64), (.i .i64), (.ro 4)])), (.r (.a [(.i .i64), (.i .i64), (.i .i64), (.i .i64), (.i .i64), (.i .i64), (.ro 4)]))]

def M67_3 {β : Type} (f67_3 : Int → Int → Int → Int → Int → Int → List R → Int → Int → Int → Int → Int → Int → List R → (Bool → Option β) → Option β) (a : List T) : Option ((T → List (List T) → Option β) → Option β) :=
  match gTs P107 a [] with
  | some [.i x0, .i x1, .i x2, .i x3, .i x4, .i x5, .l x6, .i x7, .i x8, .i x9, .i xa, .i xb, .i xc, .l xd] => some fun kk => f67_3 x0 x1 x2 x3 x4 x5 x6 x7 x8 x9 xa xb xc xd (fun xe => kk (T.r (R.b xe)) [])
  | _ => none

theorem e67_3 {β : Type} (A : Pr) (B : Pk) (l67_4t3_0 : (Bool → Option β) → (Option β) → Q36 β) (x0 x1 x2 x3 x4 x5 : Int) (x6 : List R) (x7 x8 x9 xa xb xc : Int) (xd : List R) (kk : T → List (List T) → Option β) :
    uTs P107 [.i x0, .i x1, .i x2, .i x3, .i x4, .i x5, .l x6, .i x7, .i x8, .i x9, .i xa, .i xb, .i xc, .l xd] (fun a _ => bodyK (mkK Try.prog A B [] [(4, M67_4t3 l67_4t3_0)] (Hn 67).pt []) Try.f67 a kk) = G67_3 A B l67_4t3_0 x0 x1 x2 x3 x4 x5 x6 x7 x8 x9 xa xb xc xd (fun xe => kk (T.r (R.b xe)) []) := by kernel_rfl

theorem o67_3 {β : Type} (N : Nat) : Snd (β := β) Try.prog Hn 67 (M67_3 (F67_3 re rk N)) := by
  intro a h kk r ha hr
  unfold M67_3 at ha
  split at ha
  · rename_i hs
    cases ha
    have hk := via_pat hs ((e67_3 re rk (L67_4t3_0 re rk N N) _ _ _ _ _ _ _ _ _ _ _ _ _ _ kk).trans hr)
    exact fn_ok (f := 67) (fn := Try.f67) (H := Hn) (by kernel_rfl) (show SndAll Try.prog Hn [] from trivial) (spots := [.lp X67_4]) (by kernel_rfl) ⟨cut_lp (id := 4) i67_4 (ol67_4t3 N N) (fun s kk => by kernel_rfl), trivial⟩ hk
  · cases ha

def G35_3 {β : Type} (A : Pr) (B : Pk) (f67_3 : Int → Int → Int → Int → Int → Int → List R → Int → Int → Int → Int → Int → Int → List R → (Bool → Option β) → Option β) (f68_0 : Int → Int → Int → Int → Int → Int → Int → Bool → Bool → Bool → Bool → Bool → Bool → Bool → Bool → Int → Int → Int → Int → Int → Int → Int → Int → Int → Bool → Bool → Bool → Bool → Bool → Bool → Bool → Bool → Int → Int → (Bool → Option β) → Option β) (x0 x1 x2 x3 x4 x5 : Int) (x6 : List R) (x7 x8 x9 xa xb xc : Int) (xd : List R) (xe xf xg xh xi xj xk : Int) (xl xm xn xo xp xq xr xs : Bool) (xt xu xv xw xx xy xz x10 x11 : Int) (x12 x13 x14 x15 x16 x17 x18 x19 : Bool) (x1a x1b : Int) (k0 : Bool → Bool → Option β) : Option β :=
    f67_3 x0 x1 x2 x3 x4 x5 x6 x7 x8 x9 xa xb xc xd (fun x1c =>
    f68_0 xe xf xg xh xi xj xk xl xm xn xo xp xq xr xs xt xu xv xw xx xy xz x10 x11 x12 x13 x14 x15 x16 x17 x18 x19 x1a x1b (fun x1d =>
      k0 x1c x1d))

def F35_3 {β : Type} (A : Pr) (B : Pk) (N : Nat) (x0 x1 x2 x3 x4 x5 : Int) (x6 : List R) (x7 x8 x9 xa xb xc : Int) (xd : List R) (xe xf xg xh xi xj xk : Int) (xl xm xn xo xp xq xr xs : Bool) (xt xu xv xw xx xy xz x10 x11 : Int) (x12 x13 x14 x15 x16 x17 x18 x19 : Bool) (x1a x1b : Int) (k0 : Bool → Bool → Option β) : Option β :=
  G35_3 A B (F67_3 A B N) (F68_0 A B N) x0 x1 x2 x3 x4 x5 x6 x7 x8 x9 xa xb xc xd xe xf xg xh xi xj xk xl xm xn xo xp xq xr xs xt xu xv xw xx xy xz x10 x11 x12 x13 x14 x15 x16 x17 x18 x19 x1a x1b k0

def P108 : List PT := [(.r (.a [(.i .i64), (.i .i64), (.i .i64), (.i .i64), (.i .i64), (.i .i64), (.ro 4)])), (.r (.a [(.i .i64), (.i .i64), (.i .i64), (.i .i64), (.i .i64), (.i .i64), (.ro 4)])), (.r (.a [(.i .i64), (.i .i64), (.i .i64), (.i .i64), (.i .i64), .sn, (.i .i64), (.i .i64), .b, .b, .b, .b, .b, .b, .b, .b, .sn, (.i .i64), (.i .i64)])), (.r (.a [(.i .i64), (.i .i64), (.i .i64), (.i .i64), (.i .i64), .sn, (.i .i64), (.i .i64), .b, .b, .b, .b, .b, .b, .b, .b, .sn, (.i .i64), (.i .i64)]))]

def M35_3 {β : Type} (f35_3 : Int → Int → Int → Int → Int → Int → List R → Int → Int → Int → Int → Int → Int → List R → Int → Int → Int → Int → Int → Int → Int → Bool → Bool → Bool → Bool → Bool → Bool → Bool → Bool → Int → Int → Int → Int → Int → Int → Int → Int → Int → Bool → Bool → Bool → Bool → Bool → Bool → Bool → Bool → Int → Int → (Bool → Bool → Option β) → Option β) (a : List T) : Option ((T → List (List T) → Option β) → Option β) :=
  match gTs P108 a [] with
  | some (.i x0 :: .i x1 :: .i x2 :: .i x3 :: .i x4 :: .i x5 :: .l x6 :: .i x7 :: .i x8 :: .i x9 :: .i xa :: .i xb :: .i xc :: .l xd :: .i xe :: .i xf :: .i xg :: .i xh :: .i xi :: .i xj :: .i xk :: .b xl :: .b xm :: .b xn :: .b xo :: .b xp :: .b xq :: .b xr :: .b xs :: .i xt :: .i xu :: .i xv :: .i xw :: .i xx :: .i xy :: .i xz :: .i x10 :: .i x11 :: .b x12 :: .b x13 :: .b x14 :: .b x15 :: .b x16 :: .b x17 :: .b x18 :: .b x19 :: .i x1a :: .i x1b :: []) => some fun kk => f35_3 x0 x1 x2 x3 x4 x5 x6 x7 x8 x9 xa xb xc xd xe xf xg xh xi xj xk xl xm xn xo xp xq xr xs xt xu xv xw xx xy xz x10 x11 x12 x13 x14 x15 x16 x17 x18 x19 x1a x1b (fun x1c x1d => kk (T.tp true [(T.r (R.b x1c)), (T.r (R.b x1d))]) [])
  | _ => none

theorem e35_3 {β : Type} (A : Pr) (B : Pk) (f67_3 : Int → Int → Int → Int → Int → Int → List R → Int → Int → Int → Int → Int → Int → List R → (Bool → Option β) → Option β) (f68_0 : Int → Int → Int → Int → Int → Int → Int → Bool → Bool → Bool → Bool → Bool → Bool → Bool → Bool → Int → Int → Int → Int → Int → Int → Int → Int → Int → Bool → Bool → Bool → Bool → Bool → Bool → Bool → Bool → Int → Int → (Bool → Option β) → Option β) (x0 x1 x2 x3 x4 x5 : Int) (x6 : List R) (x7 x8 x9 xa xb xc : Int) (xd : List R) (xe xf xg xh xi xj xk : Int) (xl xm xn xo xp xq xr xs : Bool) (xt xu xv xw xx xy xz x10 x11 : Int) (x12 x13 x14 x15 x16 x17 x18 x19 : Bool) (x1a x1b : Int) (kk : T → List (List T) → Option β) :
    uTs P108 (.i x0 :: .i x1 :: .i x2 :: .i x3 :: .i x4 :: .i x5 :: .l x6 :: .i x7 :: .i x8 :: .i x9 :: .i xa :: .i xb :: .i xc :: .l xd :: .i xe :: .i xf :: .i xg :: .i xh :: .i xi :: .i xj :: .i xk :: .b xl :: .b xm :: .b xn :: .b xo :: .b xp :: .b xq :: .b xr :: .b xs :: .i xt :: .i xu :: .i xv :: .i xw :: .i xx :: .i xy :: .i xz :: .i x10 :: .i x11 :: .b x12 :: .b x13 :: .b x14 :: .b x15 :: .b x16 :: .b x17 :: .b x18 :: .b x19 :: .i x1a :: .i x1b :: []) (fun a _ => bodyK (mkK Try.prog A B [(67, M67_3 f67_3), (68, M68_0 f68_0)] [] (Hn 35).pt []) Try.f35 a kk) = G35_3 A B f67_3 f68_0 x0 x1 x2 x3 x4 x5 x6 x7 x8 x9 xa xb xc xd xe xf xg xh xi xj xk xl xm xn xo xp xq xr xs xt xu xv xw xx xy xz x10 x11 x12 x13 x14 x15 x16 x17 x18 x19 x1a x1b (fun x1c x1d => kk (T.tp true [(T.r (R.b x1c)), (T.r (R.b x1d))]) []) := by kernel_rfl

theorem o35_3 {β : Type} (N : Nat) : Snd (β := β) Try.prog Hn 35 (M35_3 (F35_3 re rk N)) := by
  intro a h kk r ha hr
  unfold M35_3 at ha
  split at ha
  · rename_i hs
    cases ha
    have hk := via_pat hs ((e35_3 re rk (F67_3 re rk N) (F68_0 re rk N) _ _ _ _ _ _ _ _ _ _ _ _ _ _ _ _ _ _ _ _ _ _ _ _ _ _ _ _ _ _ _ _ _ _ _ _ _ _ _ _ _ _ _ _ _ _ _ _ kk).trans hr)
    exact fn_ok (f := 35) (fn := Try.f35) (H := Hn) (by kernel_rfl) (show SndAll Try.prog Hn [(67, M67_3 (F67_3 re rk N)), (68, M68_0 (F68_0 re rk N))] from ⟨o67_3 N, o68_0 N, trivial⟩) (spots := []) (by kernel_rfl) trivial hk
  · cases ha

def G11_0 {β : Type} (A : Pr) (B : Pk) (f31_0 : Int → Int → Int → Int → Int → Int → List R → Int → Int → Int → Int → Int → List R → Int → Int → Bool → Bool → Bool → Bool → Bool → Bool → Bool → Bool → List R → Int → Int → (Bool → Option β) → Option β) (f32_0 : (Bool → Option β) → Option β) (f33_1 : Int → Int → Int → Int → Int → Int → List R → Int → Int → Int → Int → Int → List R → Int → Int → Bool → Bool → Bool → Bool → Bool → Bool → Bool → Bool → List R → Int → Int → Int → Int → Int → Int → Int → Int → (Int → Int → Int → Int → Int → Int → Int → Option β) → (Int → Int → Int → Int → Int → Int → List R → Int → Option β) → Option β) (f34_0 : Int → Int → Int → Int → Int → Int → List R → Int → Int → Int → Int → Int → List R → Int → Int → Bool → Bool → Bool → Bool → Bool → Bool → Bool → Bool → List R → Int → Int → Int → Int → Int → Int → Int → Int → (Int → Int → Int → Int → Int → Int → Int → Option β) → (Int → Int → Int → Int → Int → Int → List R → Int → Option β) → Option β) (f35_0 : Int → Int → Int → Int → Int → Int → Int → Int → Int → Int → Int → Int → Int → Int → Int → Int → Int → Int → Int → Bool → Bool → Bool → Bool → Bool → Bool → Bool → Bool → Int → Int → Int → Int → Int → Int → Int → Int → Int → Bool → Bool → Bool → Bool → Bool → Bool → Bool → Bool → Int → Int → (Bool → Bool → Option β) → Option β) (f35_1 : Int → Int → Int → Int → Int → Int → Int → Int → Int → Int → Int → Int → List R → Int → Int → Int → Int → Int → Int → Int → Bool → Bool → Bool → Bool → Bool → Bool → Bool → Bool → Int → Int → Int → Int → Int → Int → Int → Int → Int → Bool → Bool → Bool → Bool → Bool → Bool → Bool → Bool → Int → Int → (Bool → Bool → Option β) → Option β) (f35_2 : Int → Int → Int → Int → Int → Int → List R → Int → Int → Int → Int → Int → Int → Int → Int → Int → Int → Int → Int → Int → Bool → Bool → Bool → Bool → Bool → Bool → Bool → Bool → Int → Int → Int → Int → Int → Int → Int → Int → Int → Bool → Bool → Bool → Bool → Bool → Bool → Bool → Bool → Int → Int → (Bool → Bool → Option β) → Option β) (f35_3 : Int → Int → Int → Int → Int → Int → List R → Int → Int → Int → Int → Int → Int → List R → Int → Int → Int → Int → Int → Int → Int → Bool → Bool → Bool → Bool → Bool → Bool → Bool → Bool → Int → Int → Int → Int → Int → Int → Int → Int → Int → Bool → Bool → Bool → Bool → Bool → Bool → Bool → Bool → Int → Int → (Bool → Bool → Option β) → Option β) (x0 x1 x2 x3 x4 x5 : Int) (x6 : List R) (x7 x8 x9 xa xb : Int) (xc : List R) (xd xe : Int) (xf xg xh xi xj xk xl xm : Bool) (xn : List R) (xo xp xq xr xs xt xu xv : Int) (k0 : Bool → Option β) : Option β :=
    f31_0 x0 x1 x2 x3 x4 x5 x6 x7 x8 x9 xa xb xc xd xe xf xg xh xi xj xk xl xm xn xo xp (fun xw =>
    match (A.bn xw) with
      | true => (f32_0 (fun xx =>
        k0 xx))
      | false => (f33_1 x0 x1 x2 x3 x4 x5 x6 x7 x8 x9 xa xb xc xd xe xf xg xh xi xj xk xl xm xn xo xp xq xr xs xt xu xv (fun xy xz x10 x11 x12 x13 x14 =>
        f34_0 x0 x1 x2 x3 x4 x5 x6 x7 x8 x9 xa xb xc xd xe xf xg xh xi xj xk xl xm xn xo xp xq xr xs xt xu xv (fun x15 x16 x17 x18 x19 x1a x1b =>
          f35_0 xy xz x10 x11 x12 x13 x15 x16 x17 x18 x19 x1a 0 0 0 0 0 0 0 false false false false false false false false 0 0 0 0 0 0 0 0 0 false false false false false false false false 0 0 (fun x1c x1d =>
            match (A.cm .eql x14 x1b) with
              | true => (match x1c with
                | true => (f32_0 (fun x1e =>
                  k0 x1e))
                | false => (k0 false))
              | false => (k0 false))) (fun x1f x1g x1h x1i x1j x1k x1l x1m =>
          f35_1 xy xz x10 x11 x12 x13 x1f x1g x1h x1i x1j x1k x1l 0 0 0 0 0 0 0 false false false false false false false false 0 0 0 0 0 0 0 0 0 false false false false false false false false 0 0 (fun x1n x1o =>
            match (A.cm .eql x14 x1m) with
              | true => (match x1n with
                | true => (f32_0 (fun x1p =>
                  k0 x1p))
                | false => (k0 false))
              | false => (k0 false)))) (fun x1q x1r x1s x1t x1u x1v x1w x1x =>
        f34_0 x0 x1 x2 x3 x4 x5 x6 x7 x8 x9 xa xb xc xd xe xf xg xh xi xj xk xl xm xn xo xp xq xr xs xt xu xv (fun x1y x1z x20 x21 x22 x23 x24 =>
          f35_2 x1q x1r x1s x1t x1u x1v x1w x1y x1z x20 x21 x22 x23 0 0 0 0 0 0 0 false false false false false false false false 0 0 0 0 0 0 0 0 0 false false false false false false false false 0 0 (fun x25 x26 =>
            match (A.cm .eql x1x x24) with
              | true => (match x25 with
                | true => (f32_0 (fun x27 =>
                  k0 x27))
                | false => (k0 false))
              | false => (k0 false))) (fun x28 x29 x2a x2b x2c x2d x2e x2f =>
          f35_3 x1q x1r x1s x1t x1u x1v x1w x28 x29 x2a x2b x2c x2d x2e 0 0 0 0 0 0 0 false false false false false false false false 0 0 0 0 0 0 0 0 0 false false false false false false false false 0 0 (fun x2g x2h =>
            match (A.cm .eql x1x x2f) with
              | true => (match x2g with
                | true => (f32_0 (fun x2i =>
                  k0 x2i))
                | false => (k0 false))
              | false => (k0 false))))))

def F11_0 {β : Type} (A : Pr) (B : Pk) (N : Nat) (x0 x1 x2 x3 x4 x5 : Int) (x6 : List R) (x7 x8 x9 xa xb : Int) (xc : List R) (xd xe : Int) (xf xg xh xi xj xk xl xm : Bool) (xn : List R) (xo xp xq xr xs xt xu xv : Int) (k0 : Bool → Option β) : Option β :=
  G11_0 A B (F31_0 A B N) (F32_0 A B N) (F33_1 A B N) (F34_0 A B N) (F35_0 A B N) (F35_1 A B N) (F35_2 A B N) (F35_3 A B N) x0 x1 x2 x3 x4 x5 x6 x7 x8 x9 xa xb xc xd xe xf xg xh xi xj xk xl xm xn xo xp xq xr xs xt xu xv k0

def M11_0 {β : Type} (f11_0 : Int → Int → Int → Int → Int → Int → List R → Int → Int → Int → Int → Int → List R → Int → Int → Bool → Bool → Bool → Bool → Bool → Bool → Bool → Bool → List R → Int → Int → Int → Int → Int → Int → Int → Int → (Bool → Option β) → Option β) (a : List T) : Option ((T → List (List T) → Option β) → Option β) :=
  match gTs P89 a [] with
  | some (.i x0 :: .i x1 :: .i x2 :: .i x3 :: .i x4 :: .i x5 :: .l x6 :: .i x7 :: .i x8 :: .i x9 :: .i xa :: .i xb :: .l xc :: .i xd :: .i xe :: .b xf :: .b xg :: .b xh :: .b xi :: .b xj :: .b xk :: .b xl :: .b xm :: .l xn :: .i xo :: .i xp :: .i xq :: .i xr :: .i xs :: .i xt :: .i xu :: .i xv :: []) => some fun kk => f11_0 x0 x1 x2 x3 x4 x5 x6 x7 x8 x9 xa xb xc xd xe xf xg xh xi xj xk xl xm xn xo xp xq xr xs xt xu xv (fun xw => kk (T.r (R.b xw)) [])
  | _ => none

theorem e11_0 {β : Type} (A : Pr) (B : Pk) (f31_0 : Int → Int → Int → Int → Int → Int → List R → Int → Int → Int → Int → Int → List R → Int → Int → Bool → Bool → Bool → Bool → Bool → Bool → Bool → Bool → List R → Int → Int → (Bool → Option β) → Option β) (f32_0 : (Bool → Option β) → Option β) (f33_1 : Int → Int → Int → Int → Int → Int → List R → Int → Int → Int → Int → Int → List R → Int → Int → Bool → Bool → Bool → Bool → Bool → Bool → Bool → Bool → List R → Int → Int → Int → Int → Int → Int → Int → Int → (Int → Int → Int → Int → Int → Int → Int → Option β) → (Int → Int → Int → Int → Int → Int → List R → Int → Option β) → Option β) (f34_0 : Int → Int → Int → Int → Int → Int → List R → Int → Int → Int → Int → Int → List R → Int → Int → Bool → Bool → Bool → Bool → Bool → Bool → Bool → Bool → List R → Int → Int → Int → Int → Int → Int → Int → Int → (Int → Int → Int → Int → Int → Int → Int → Option β) → (Int → Int → Int → Int → Int → Int → List R → Int → Option β) → Option β) (f35_0 : Int → Int → Int → Int → Int → Int → Int → Int → Int → Int → Int → Int → Int → Int → Int → Int → Int → Int → Int → Bool → Bool → Bool → Bool → Bool → Bool → Bool → Bool → Int → Int → Int → Int → Int → Int → Int → Int → Int → Bool → Bool → Bool → Bool → Bool → Bool → Bool → Bool → Int → Int → (Bool → Bool → Option β) → Option β) (f35_1 : Int → Int → Int → Int → Int → Int → Int → Int → Int → Int → Int → Int → List R → Int → Int → Int → Int → Int → Int → Int → Bool → Bool → Bool → Bool → Bool → Bool → Bool → Bool → Int → Int → Int → Int → Int → Int → Int → Int → Int → Bool → Bool → Bool → Bool → Bool → Bool → Bool → Bool → Int → Int → (Bool → Bool → Option β) → Option β) (f35_2 : Int → Int → Int → Int → Int → Int → List R → Int → Int → Int → Int → Int → Int → Int → Int → Int → Int → Int → Int → Int → Bool → Bool → Bool → Bool → Bool → Bool → Bool → Bool → Int → Int → Int → Int → Int → Int → Int → Int → Int → Bool → Bool → Bool → Bool → Bool → Bool → Bool → Bool → Int → Int → (Bool → Bool → Option β) → Option β) (f35_3 : Int → Int → Int → Int → Int → Int → List R → Int → Int → Int → Int → Int → Int → List R → Int → Int → Int → Int → Int → Int → Int → Bool → Bool → Bool → Bool → Bool → Bool → Bool → Bool → Int → Int → Int → Int → Int → Int → Int → Int → Int → Bool → Bool → Bool → Bool → Bool → Bool → Bool → Bool → Int → Int → (Bool → Bool → Option β) → Option β) (x0 x1 x2 x3 x4 x5 : Int) (x6 : List R) (x7 x8 x9 xa xb : Int) (xc : List R) (xd xe : Int) (xf xg xh xi xj xk xl xm : Bool) (xn : List R) (xo xp xq xr xs xt xu xv : Int) (kk : T → List (List T) → Option β) :
    uTs P89 (.i x0 :: .i x1 :: .i x2 :: .i x3 :: .i x4 :: .i x5 :: .l x6 :: .i x7 :: .i x8 :: .i x9 :: .i xa :: .i xb :: .l xc :: .i xd :: .i xe :: .b xf :: .b xg :: .b xh :: .b xi :: .b xj :: .b xk :: .b xl :: .b xm :: .l xn :: .i xo :: .i xp :: .i xq :: .i xr :: .i xs :: .i xt :: .i xu :: .i xv :: []) (fun a _ => bodyK (mkK Try.prog A B [(31, M31_0 f31_0), (32, M32_0 f32_0), (33, M33_1 f33_1), (34, M34_0 f34_0), (35, M35_0 f35_0), (35, M35_1 f35_1), (35, M35_2 f35_2), (35, M35_3 f35_3)] [] (Hn 11).pt []) Try.f11 a kk) = G11_0 A B f31_0 f32_0 f33_1 f34_0 f35_0 f35_1 f35_2 f35_3 x0 x1 x2 x3 x4 x5 x6 x7 x8 x9 xa xb xc xd xe xf xg xh xi xj xk xl xm xn xo xp xq xr xs xt xu xv (fun xw => kk (T.r (R.b xw)) []) := by kernel_rfl

theorem o11_0 {β : Type} (N : Nat) : Snd (β := β) Try.prog Hn 11 (M11_0 (F11_0 re rk N)) := by
  intro a h kk r ha hr
  unfold M11_0 at ha
  split at ha
  · rename_i hs
    cases ha
    have hk := via_pat hs ((e11_0 re rk (F31_0 re rk N) (F32_0 re rk N) (F33_1 re rk N) (F34_0 re rk N) (F35_0 re rk N) (F35_1 re rk N) (F35_2 re rk N) (F35_3 re rk N) _ _ _ _ _ _ _ _ _ _ _ _ _ _ _ _ _ _ _ _ _ _ _ _ _ _ _ _ _ _ _ _ kk).trans hr)
    exact fn_ok (f := 11) (fn := Try.f11) (H := Hn) (by kernel_rfl) (show SndAll Try.prog Hn [(31, M31_0 (F31_0 re rk N)), (32, M32_0 (F32_0 re rk N)), (33, M33_1 (F33_1 re rk N)), (34, M34_0 (F34_0 re rk N)), (35, M35_0 (F35_0 re rk N)), (35, M35_1 (F35_1 re rk N)), (35, M35_2 (F35_2 re rk N)), (35, M35_3 (F35_3 re rk N))] from ⟨o31_0 N, o32_0 N, o33_1 N, o34_0 N, o35_0 N, o35_1 N, o35_2 N, o35_3 N, trivial⟩) (spots := []) (by kernel_rfl) trivial hk
  · cases ha



end
