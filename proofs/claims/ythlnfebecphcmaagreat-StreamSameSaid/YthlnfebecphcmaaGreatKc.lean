/-
  The functions' trees, printed by a program of ours.
-/
import Derived.Test.YthlnfebecphcmaaGreatKb
set_option linter.unusedVariables false
set_option maxRecDepth 100000
namespace Go.Proofs.YthlnfebecphcmaaGreat
open Go.Os
section
def F24_0 {β : Type} (A : Pr) (B : Pk) (N : Nat) (x0 x1 x2 x3 x4 x5 : Int) (x6 : List R) (x7 x8 x9 xa xb xc : Int) (xd : List R) (xe xf xg xh xi : Int) (xj : List R) (xk xl : Int) (xm xn xo xp xq xr xs xt : Bool) (xu : List R) (xv xw xx xy xz x10 x11 : Int) (x12 : List R) (x13 x14 : Int) (x15 x16 x17 x18 x19 x1a x1b x1c : Bool) (x1d : List R) (x1e x1f : Int) (k0 : Bool → Bool → Option β) : Option β :=
  G24_0 A B (F49_0 A B N) (J24_2_0 A B N) x0 x1 x2 x3 x4 x5 x6 x7 x8 x9 xa xb xc xd xe xf xg xh xi xj xk xl xm xn xo xp xq xr xs xt xu xv xw xx xy xz x10 x11 x12 x13 x14 x15 x16 x17 x18 x19 x1a x1b x1c x1d x1e x1f k0
def PA14 : List PT := [(.r (.a [(.i .i64), (.i .i64), (.i .i64), (.i .i64), (.i .i64), (.i .i64), (.ro 4)])), (.r (.a [(.i .i64), (.i .i64), (.i .i64), (.i .i64), (.i .i64), (.i .i64), (.ro 4)])), (.r (.a [(.i .i64), (.i .i64), (.i .i64), (.i .i64), (.i .i64), (.ro 2), (.i .i64), (.i .i64), .b, .b, .b, .b, .b, .b, .b, .b, (.ro 1), (.i .i64), (.i .i64)])), (.r (.a [(.i .i64), (.i .i64), (.i .i64), (.i .i64), (.i .i64), (.ro 2), (.i .i64), (.i .i64), .b, .b, .b, .b, .b, .b, .b, .b, (.ro 1), (.i .i64), (.i .i64)]))]
def M24_0 {β : Type} (f24_0 : Int → Int → Int → Int → Int → Int → List R → Int → Int → Int → Int → Int → Int → List R → Int → Int → Int → Int → Int → List R → Int → Int → Bool → Bool → Bool → Bool → Bool → Bool → Bool → Bool → List R → Int → Int → Int → Int → Int → Int → Int → List R → Int → Int → Bool → Bool → Bool → Bool → Bool → Bool → Bool → Bool → List R → Int → Int → (Bool → Bool → Option β) → Option β) (a : List T) : Option ((T → List (List T) → Option β) → Option β) :=
  match gTs PA14 a [] with
  | some (.i x0 :: .i x1 :: .i x2 :: .i x3 :: .i x4 :: .i x5 :: .l x6 :: .i x7 :: .i x8 :: .i x9 :: .i xa :: .i xb :: .i xc :: .l xd :: .i xe :: .i xf :: .i xg :: .i xh :: .i xi :: .l xj :: .i xk :: .i xl :: .b xm :: .b xn :: .b xo :: .b xp :: .b xq :: .b xr :: .b xs :: .b xt :: .l xu :: .i xv :: .i xw :: .i xx :: .i xy :: .i xz :: .i x10 :: .i x11 :: .l x12 :: .i x13 :: .i x14 :: .b x15 :: .b x16 :: .b x17 :: .b x18 :: .b x19 :: .b x1a :: .b x1b :: .b x1c :: .l x1d :: .i x1e :: .i x1f :: []) => some fun kk => f24_0 x0 x1 x2 x3 x4 x5 x6 x7 x8 x9 xa xb xc xd xe xf xg xh xi xj xk xl xm xn xo xp xq xr xs xt xu xv xw xx xy xz x10 x11 x12 x13 x14 x15 x16 x17 x18 x19 x1a x1b x1c x1d x1e x1f (fun x1g x1h => kk (T.tp true [(tB x1g), (tB x1h)]) [])
  | _ => none
theorem e24_0 {β : Type} (A : Pr) (B : Pk) (f49_0 : List R → List R → (Bool → Option β) → Option β) (q24_2_0 : Int → Int → Int → Int → Int → List R → Int → Int → Bool → Bool → Bool → Bool → Bool → Bool → Bool → Bool → List R → Int → Int → Int → Int → Int → Int → Int → List R → Int → Int → Bool → Bool → Bool → Bool → Bool → Bool → Bool → Bool → List R → Int → Int → Bool → (Bool → Bool → Option β) → Option β) (x0 x1 x2 x3 x4 x5 : Int) (x6 : List R) (x7 x8 x9 xa xb xc : Int) (xd : List R) (xe xf xg xh xi : Int) (xj : List R) (xk xl : Int) (xm xn xo xp xq xr xs xt : Bool) (xu : List R) (xv xw xx xy xz x10 x11 : Int) (x12 : List R) (x13 x14 : Int) (x15 x16 x17 x18 x19 x1a x1b x1c : Bool) (x1d : List R) (x1e x1f : Int) (kk : T → List (List T) → Option β) :
    uTs PA14 (.i x0 :: .i x1 :: .i x2 :: .i x3 :: .i x4 :: .i x5 :: .l x6 :: .i x7 :: .i x8 :: .i x9 :: .i xa :: .i xb :: .i xc :: .l xd :: .i xe :: .i xf :: .i xg :: .i xh :: .i xi :: .l xj :: .i xk :: .i xl :: .b xm :: .b xn :: .b xo :: .b xp :: .b xq :: .b xr :: .b xs :: .b xt :: .l xu :: .i xv :: .i xw :: .i xx :: .i xy :: .i xz :: .i x10 :: .i x11 :: .l x12 :: .i x13 :: .i x14 :: .b x15 :: .b x16 :: .b x17 :: .b x18 :: .b x19 :: .b x1a :: .b x1b :: .b x1c :: .l x1d :: .i x1e :: .i x1f :: []) (fun a _ => bodyK (mkK Tryz.prog A B [(49, M49_0 f49_0)] [] (Hn 24).pt [(2, MJ24_2_0 q24_2_0)]) Tryz.f24 a kk) = G24_0 A B f49_0 q24_2_0 x0 x1 x2 x3 x4 x5 x6 x7 x8 x9 xa xb xc xd xe xf xg xh xi xj xk xl xm xn xo xp xq xr xs xt xu xv xw xx xy xz x10 x11 x12 x13 x14 x15 x16 x17 x18 x19 x1a x1b x1c x1d x1e x1f (fun x1g x1h => kk (T.tp true [(tB x1g), (tB x1h)]) []) := by kernel_rfl
theorem o24_0 {β : Type} (N : Nat) : Snd (β := β) Tryz.prog Hn 24 (M24_0 (F24_0 re rk N)) := by
  intro a h kk r ha hr
  unfold M24_0 at ha
  split at ha
  · rename_i hs
    cases ha
    have hk := via_pat hs ((e24_0 re rk (F49_0 re rk N) (J24_2_0 re rk N) _ _ _ _ _ _ _ _ _ _ _ _ _ _ _ _ _ _ _ _ _ _ _ _ _ _ _ _ _ _ _ _ _ _ _ _ _ _ _ _ _ _ _ _ _ _ _ _ _ _ _ _ kk).trans hr)
    exact fn_ok (f := 24) (fn := Tryz.f24) (H := Hn) (by kernel_rfl) (show SndAll Tryz.prog Hn [(49, M49_0 (F49_0 re rk N))] from ⟨o49_0 N, trivial⟩) (spots := [.pt Y24_2]) (by kernel_rfl) ⟨cut_pt (id := 2) j24_2 (oj24_2_0 N) (fun s kk => by kernel_rfl), trivial⟩ hk
  · cases ha
def P69 : List PT := [(.r (.a [(.i .i64), (.i .i64), (.i .i64), (.i .i64), (.i .i64), (.i .i64), (.ro 4)])), (.r (.a [(.i .i64), (.i .i64), (.i .i64), (.i .i64), (.i .i64), (.i .i64), (.ro 4)])), (.r (.a [(.i .i64), (.i .i64), (.i .i64), (.i .i64), (.i .i64), (.ro 2), (.i .i64), (.i .i64), .b, .b, .b, .b, .b, .b, .b, .b, (.ro 1), (.i .i64), (.i .i64)])), (.r (.a [(.i .i64), (.i .i64), (.i .i64), (.i .i64), (.i .i64), (.ro 2), (.i .i64), (.i .i64), .b, .b, .b, .b, .b, .b, .b, .b, (.ro 1), (.i .i64), (.i .i64)]))]
noncomputable def X25_4 : Code := atF Tryz.f25 [true, true, false, true, false, false]
theorem i25_4 : firstReg X25_4 = 4 := by kernel_rfl
def GL25_4_0 {β : Type} (A : Pr) (B : Pk) (l25_4_0 : (List R → List R → Bool → Option β) → (List R → List R → Option β) → List R → List R → Int → Int → Option β) (k0 : List R → List R → Bool → Option β) (k1 : List R → List R → Option β) (x0 x1 : List R) (x2 x3 : Int) : Option β :=
    match (A.cm .lss x3 x2) with
    | true => (match (A.ix x3 (A.len x0)) with
      | some x4 => (match (B.okE [Sh.s] false x0 x4) with
        | true => (match (A.ix x3 (A.len x1)) with
          | some x5 => (match (B.okE [Sh.s] false x1 x5) with
            | true => (match (A.bn (A.cs .eql (B.cs x0 x4 0) (B.cs x1 x5 0))) with
              | true => (k0 x0 x1 false)
              | false => (l25_4_0 k0 k1 x0 x1 x2 (A.ar .add .i64 x3 1)))
            | false => none)
          | none => none)
        | false => none)
      | none => none)
    | false => (k1 x0 x1)
def L25_4_0 {β : Type} (A : Pr) (B : Pk) (N : Nat) : Nat → (List R → List R → Bool → Option β) → (List R → List R → Option β) → List R → List R → Int → Int → Option β
  | 0, _, _, _, _, _, _ => none
  | n + 1, k0, k1, x0, x1, x2, x3 =>
    GL25_4_0 A B (L25_4_0 A B N n) k0 k1 x0 x1 x2 x3
noncomputable def ML25_4 {β : Type} (l25_4_0 : (List R → List R → Bool → Option β) → (List R → List R → Option β) → List R → List R → Int → Int → Option β) (s : List T) : Option ((Ex → List T → Option β) → Option β) :=
  match gTs P64 (clean ((Hn 25).lp 4).1 s) [] with
  | some [.l x0, .l x1, .i x2, .i x3] => some fun kk => l25_4_0 (fun x4 x5 x6 => kk Ex.rt (S62 x4 x5 x6)) (fun x7 x8 => kk (Ex.ex 0) (S63 x7 x8)) x0 x1 x2 x3
  | _ => none
theorem e25_4_0 {β : Type} (A : Pr) (B : Pk) (l25_4_0 : (List R → List R → Bool → Option β) → (List R → List R → Option β) → List R → List R → Int → Int → Option β) (x0 x1 : List R) (x2 x3 : Int) (kk : Ex → List T → Option β) :
    uTs P64 [.l x0, .l x1, .i x2, .i x3] (fun s _ => evK (mkK Tryz.prog A B [] [] (Hn 25).pt []) X25_4 s (fun e s' => match e with
      | .nm => (match ML25_4 l25_4_0 s' with | some h => h kk | none => none)
      | .ex m => kk (.ex m) (clean ((Hn 25).lp (firstReg X25_4)).2 s')
      | .rt => kk .rt (clean ((Hn 25).lp (firstReg X25_4)).2 s'))) = GL25_4_0 A B l25_4_0 (fun x4 x5 x6 => kk Ex.rt (S62 x4 x5 x6)) (fun x7 x8 => kk (Ex.ex 0) (S63 x7 x8)) x0 x1 x2 x3 := by kernel_rfl
theorem ol25_4 {β : Type} (N : Nat) : ∀ n, SndL (β := β) Tryz.prog Hn (Hn 25) X25_4 (ML25_4 (L25_4_0 re rk N n))
  | 0 => by
    intro s h kk r ha hr
    unfold ML25_4 at ha
    split at ha
    · cases ha; cases hr
    · cases ha
  | n + 1 => by
    have ih := ol25_4 (β := β) N n
    intro s h kk r ha hr
    unfold ML25_4 at ha
    split at ha
    · rename_i hs
      cases ha
      have hk := via_pat hs ((e25_4_0 re rk (L25_4_0 re rk N n) _ _ _ _ kk).trans hr)
      exact round_ok (show SndAll Tryz.prog Hn [] from trivial) (spots := []) (by kernel_rfl) trivial ih (hd := clean ((Hn 25).lp 4).1 s) (by rw [i25_4]) hk
    · cases ha
def G25_0 {β : Type} (A : Pr) (B : Pk) (l25_4_0 : (List R → List R → Bool → Option β) → (List R → List R → Option β) → List R → List R → Int → Int → Option β) (x0 x1 : List R) (k0 : Bool → Option β) : Option β :=
    match (A.cm .neq (A.on (A.len x0)) (A.on (A.len x1))) with
    | true => (k0 false)
    | false => (l25_4_0 (fun x2 x3 x4 =>
      k0 x4) (fun x5 x6 =>
      k0 true) x0 x1 (A.on (A.len x0)) 0)
def F25_0 {β : Type} (A : Pr) (B : Pk) (N : Nat) (x0 x1 : List R) (k0 : Bool → Option β) : Option β :=
  G25_0 A B (L25_4_0 A B N N) x0 x1 k0
def M25_0 {β : Type} (f25_0 : List R → List R → (Bool → Option β) → Option β) (a : List T) : Option ((T → List (List T) → Option β) → Option β) :=
  match gTs P65 a [] with
  | some [.l x0, .l x1] => some fun kk => f25_0 x0 x1 (fun x2 => kk (tB x2) [])
  | _ => none
theorem e25_0 {β : Type} (A : Pr) (B : Pk) (l25_4_0 : (List R → List R → Bool → Option β) → (List R → List R → Option β) → List R → List R → Int → Int → Option β) (x0 x1 : List R) (kk : T → List (List T) → Option β) :
    uTs P65 [.l x0, .l x1] (fun a _ => bodyK (mkK Tryz.prog A B [] [(4, ML25_4 l25_4_0)] (Hn 25).pt []) Tryz.f25 a kk) = G25_0 A B l25_4_0 x0 x1 (fun x2 => kk (tB x2) []) := by kernel_rfl
theorem o25_0 {β : Type} (N : Nat) : Snd (β := β) Tryz.prog Hn 25 (M25_0 (F25_0 re rk N)) := by
  intro a h kk r ha hr
  unfold M25_0 at ha
  split at ha
  · rename_i hs
    cases ha
    have hk := via_pat hs ((e25_0 re rk (L25_4_0 re rk N N) _ _ kk).trans hr)
    exact fn_ok (f := 25) (fn := Tryz.f25) (H := Hn) (by kernel_rfl) (show SndAll Tryz.prog Hn [] from trivial) (spots := [.lp X25_4]) (by kernel_rfl) ⟨cut_lp (id := 4) i25_4 (ol25_4 N N) (fun s kk => by kernel_rfl), trivial⟩ hk
  · cases ha
def G28_0 {β : Type} (A : Pr) (B : Pk) (x0 x1 : List R) (k0 : Bool → Option β) : Option β :=
    match (A.okb x0) with
    | true => (match (A.okb x1) with
      | true => (k0 (A.cs .eql (A.bs x0) (A.bs x1)))
      | false => none)
    | false => none
def F28_0 {β : Type} (A : Pr) (B : Pk) (N : Nat) (x0 x1 : List R) (k0 : Bool → Option β) : Option β :=
  G28_0 A B  x0 x1 k0
def M28_0 {β : Type} (f28_0 : List R → List R → (Bool → Option β) → Option β) (a : List T) : Option ((T → List (List T) → Option β) → Option β) :=
  match gTs P65 a [] with
  | some [.l x0, .l x1] => some fun kk => f28_0 x0 x1 (fun x2 => kk (tB x2) [])
  | _ => none
theorem e28_0 {β : Type} (A : Pr) (B : Pk) (x0 x1 : List R) (kk : T → List (List T) → Option β) :
    uTs P65 [.l x0, .l x1] (fun a _ => bodyK (mkK Tryz.prog A B [] [] (Hn 28).pt []) Tryz.f28 a kk) = G28_0 A B  x0 x1 (fun x2 => kk (tB x2) []) := by kernel_rfl
theorem o28_0 {β : Type} (N : Nat) : Snd (β := β) Tryz.prog Hn 28 (M28_0 (F28_0 re rk N)) := by
  intro a h kk r ha hr
  unfold M28_0 at ha
  split at ha
  · rename_i hs
    cases ha
    have hk := via_pat hs ((e28_0 re rk  _ _ kk).trans hr)
    exact fn_ok (f := 28) (fn := Tryz.f28) (H := Hn) (by kernel_rfl) (show SndAll Tryz.prog Hn [] from trivial) (spots := []) (by kernel_rfl) trivial hk
  · cases ha
def G27_0 {β : Type} (A : Pr) (B : Pk) (f28_0 : List R → List R → (Bool → Option β) → Option β) (x0 x1 x2 x3 : Int) (x4 x5 : List R) (x6 x7 x8 x9 : Int) (xa xb : List R) (k0 : Bool → Option β) : Option β :=
    match (A.ba (A.cm .eql x0 x6) (A.ba (A.cm .eql x1 x7) (A.ba (A.cm .eql x2 x8) (A.ba (A.cm .eql x3 x9) true)))) with
    | true => (f28_0 x4 xa (fun xc =>
      match xc with
        | true => (f28_0 x5 xb (fun xd =>
          k0 xd))
        | false => (k0 false)))
    | false => (k0 false)
def F27_0 {β : Type} (A : Pr) (B : Pk) (N : Nat) (x0 x1 x2 x3 : Int) (x4 x5 : List R) (x6 x7 x8 x9 : Int) (xa xb : List R) (k0 : Bool → Option β) : Option β :=
  G27_0 A B (F28_0 A B N) x0 x1 x2 x3 x4 x5 x6 x7 x8 x9 xa xb k0
def P70 : List PT := [(.r (.a [(.i .i64), (.i .i64), (.i .i64), (.i .i64), (.ro 1), (.ro 1)])), (.r (.a [(.i .i64), (.i .i64), (.i .i64), (.i .i64), (.ro 1), (.ro 1)]))]
def M27_0 {β : Type} (f27_0 : Int → Int → Int → Int → List R → List R → Int → Int → Int → Int → List R → List R → (Bool → Option β) → Option β) (a : List T) : Option ((T → List (List T) → Option β) → Option β) :=
  match gTs P70 a [] with
  | some [.i x0, .i x1, .i x2, .i x3, .l x4, .l x5, .i x6, .i x7, .i x8, .i x9, .l xa, .l xb] => some fun kk => f27_0 x0 x1 x2 x3 x4 x5 x6 x7 x8 x9 xa xb (fun xc => kk (tB xc) [])
  | _ => none
theorem e27_0 {β : Type} (A : Pr) (B : Pk) (f28_0 : List R → List R → (Bool → Option β) → Option β) (x0 x1 x2 x3 : Int) (x4 x5 : List R) (x6 x7 x8 x9 : Int) (xa xb : List R) (kk : T → List (List T) → Option β) :
    uTs P70 [.i x0, .i x1, .i x2, .i x3, .l x4, .l x5, .i x6, .i x7, .i x8, .i x9, .l xa, .l xb] (fun a _ => bodyK (mkK Tryz.prog A B [(28, M28_0 f28_0)] [] (Hn 27).pt []) Tryz.f27 a kk) = G27_0 A B f28_0 x0 x1 x2 x3 x4 x5 x6 x7 x8 x9 xa xb (fun xc => kk (tB xc) []) := by kernel_rfl
theorem o27_0 {β : Type} (N : Nat) : Snd (β := β) Tryz.prog Hn 27 (M27_0 (F27_0 re rk N)) := by
  intro a h kk r ha hr
  unfold M27_0 at ha
  split at ha
  · rename_i hs
    cases ha
    have hk := via_pat hs ((e27_0 re rk (F28_0 re rk N) _ _ _ _ _ _ _ _ _ _ _ _ kk).trans hr)
    exact fn_ok (f := 27) (fn := Tryz.f27) (H := Hn) (by kernel_rfl) (show SndAll Tryz.prog Hn [(28, M28_0 (F28_0 re rk N))] from ⟨o28_0 N, trivial⟩) (spots := []) (by kernel_rfl) trivial hk
  · cases ha
noncomputable def X26_4 : Code := atF Tryz.f26 [true, true, false, true, false, false]
theorem i26_4 : firstReg X26_4 = 4 := by kernel_rfl
def GL26_4_0 {β : Type} (A : Pr) (B : Pk) (f27_0 : Int → Int → Int → Int → List R → List R → Int → Int → Int → Int → List R → List R → (Bool → Option β) → Option β) (l26_4_0 : (List R → Bool → Option β) → (List R → Option β) → List R → List R → Int → Int → Option β) (k0 : List R → Bool → Option β) (k1 : List R → Option β) (x0 x1 : List R) (x2 x3 : Int) : Option β :=
    match (A.cm .lss x3 x2) with
    | true => (match (A.ix x3 (A.len x1)) with
      | some x4 => (match (B.okE [(Sh.i .i64), (Sh.i .i64), (Sh.i .i64), (Sh.i .i64), (Sh.sl 1 (Sh.i .u8)), (Sh.sl 1 (Sh.i .u8))] true x1 x4) with
        | true => (match (A.ix x3 (A.len x0)) with
          | some x5 => (match (B.okE [(Sh.i .i64), (Sh.i .i64), (Sh.i .i64), (Sh.i .i64), (Sh.sl 1 (Sh.i .u8)), (Sh.sl 1 (Sh.i .u8))] true x0 x5) with
            | true => (f27_0 (B.ci x1 x4 0) (B.ci x1 x4 1) (B.ci x1 x4 2) (B.ci x1 x4 3) (B.cl x1 x4 4) (B.cl x1 x4 5) (B.ci x0 x5 0) (B.ci x0 x5 1) (B.ci x0 x5 2) (B.ci x0 x5 3) (B.cl x0 x5 4) (B.cl x0 x5 5) (fun x6 =>
              match (A.bn x6) with
                | true => (k0 x0 false)
                | false => (l26_4_0 k0 k1 x0 x1 x2 (A.ar .add .i64 x3 1))))
            | false => none)
          | none => none)
        | false => none)
      | none => none)
    | false => (k1 x0)
def L26_4_0 {β : Type} (A : Pr) (B : Pk) (N : Nat) : Nat → (List R → Bool → Option β) → (List R → Option β) → List R → List R → Int → Int → Option β
  | 0, _, _, _, _, _, _ => none
  | n + 1, k0, k1, x0, x1, x2, x3 =>
    GL26_4_0 A B (F27_0 A B N) (L26_4_0 A B N n) k0 k1 x0 x1 x2 x3
def P71 : List PT := [.us 1, (.r (.ro 6)), (.f 27 []), .us 3, pB, .us 25]
def S71 (x0 : List R) (x1 : Bool) : List T := (T.u :: (T.r (R.ro 6 x0)) :: (T.f 27 []) :: T.u :: T.u :: T.u :: (tB x1) :: T.u :: T.u :: T.u :: T.u :: T.u :: T.u :: T.u :: T.u :: T.u :: T.u :: T.u :: T.u :: T.u :: T.u :: T.u :: T.u :: T.u :: T.u :: T.u :: T.u :: T.u :: T.u :: T.u :: T.u :: T.u :: [])
def P72 : List PT := [.us 1, (.r (.ro 6)), (.f 27 []), .us 29]
def S72 (x0 : List R) : List T := (T.u :: (T.r (R.ro 6 x0)) :: (T.f 27 []) :: T.u :: T.u :: T.u :: T.u :: T.u :: T.u :: T.u :: T.u :: T.u :: T.u :: T.u :: T.u :: T.u :: T.u :: T.u :: T.u :: T.u :: T.u :: T.u :: T.u :: T.u :: T.u :: T.u :: T.u :: T.u :: T.u :: T.u :: T.u :: T.u :: [])
def P73 : List PT := [.us 1, (.r (.ro 6)), (.f 27 []), .us 12, (.r (.ro 6)), pI, pI, .us 14]
noncomputable def ML26_4 {β : Type} (l26_4_0 : (List R → Bool → Option β) → (List R → Option β) → List R → List R → Int → Int → Option β) (s : List T) : Option ((Ex → List T → Option β) → Option β) :=
  match gTs P73 (clean ((Hn 26).lp 4).1 s) [] with
  | some [.l x0, .l x1, .i x2, .i x3] => some fun kk => l26_4_0 (fun x4 x5 => kk Ex.rt (S71 x4 x5)) (fun x6 => kk (Ex.ex 0) (S72 x6)) x0 x1 x2 x3
  | _ => none
theorem e26_4_0 {β : Type} (A : Pr) (B : Pk) (f27_0 : Int → Int → Int → Int → List R → List R → Int → Int → Int → Int → List R → List R → (Bool → Option β) → Option β) (l26_4_0 : (List R → Bool → Option β) → (List R → Option β) → List R → List R → Int → Int → Option β) (x0 x1 : List R) (x2 x3 : Int) (kk : Ex → List T → Option β) :
    uTs P73 [.l x0, .l x1, .i x2, .i x3] (fun s _ => evK (mkK Tryz.prog A B [(27, M27_0 f27_0)] [] (Hn 26).pt []) X26_4 s (fun e s' => match e with
      | .nm => (match ML26_4 l26_4_0 s' with | some h => h kk | none => none)
      | .ex m => kk (.ex m) (clean ((Hn 26).lp (firstReg X26_4)).2 s')
      | .rt => kk .rt (clean ((Hn 26).lp (firstReg X26_4)).2 s'))) = GL26_4_0 A B f27_0 l26_4_0 (fun x4 x5 => kk Ex.rt (S71 x4 x5)) (fun x6 => kk (Ex.ex 0) (S72 x6)) x0 x1 x2 x3 := by kernel_rfl
theorem ol26_4 {β : Type} (N : Nat) : ∀ n, SndL (β := β) Tryz.prog Hn (Hn 26) X26_4 (ML26_4 (L26_4_0 re rk N n))
  | 0 => by
    intro s h kk r ha hr
    unfold ML26_4 at ha
    split at ha
    · cases ha; cases hr
    · cases ha
  | n + 1 => by
    have ih := ol26_4 (β := β) N n
    intro s h kk r ha hr
    unfold ML26_4 at ha
    split at ha
    · rename_i hs
      cases ha
      have hk := via_pat hs ((e26_4_0 re rk (F27_0 re rk N) (L26_4_0 re rk N n) _ _ _ _ kk).trans hr)
      exact round_ok (show SndAll Tryz.prog Hn [(27, M27_0 (F27_0 re rk N))] from ⟨o27_0 N, trivial⟩) (spots := []) (by kernel_rfl) trivial ih (hd := clean ((Hn 26).lp 4).1 s) (by rw [i26_4]) hk
    · cases ha
def G26_0 {β : Type} (A : Pr) (B : Pk) (l26_4_0 : (List R → Bool → Option β) → (List R → Option β) → List R → List R → Int → Int → Option β) (x0 x1 : List R) (k0 : Bool → Option β) : Option β :=
    match (A.cm .neq (A.on (A.len x0)) (A.on (A.len x1))) with
    | true => (k0 false)
    | false => (l26_4_0 (fun x2 x3 =>
      k0 x3) (fun x4 =>
      k0 true) x1 x0 (A.on (A.len x0)) 0)
def F26_0 {β : Type} (A : Pr) (B : Pk) (N : Nat) (x0 x1 : List R) (k0 : Bool → Option β) : Option β :=
  G26_0 A B (L26_4_0 A B N N) x0 x1 k0
def P74 : List PT := [(.r (.ro 6)), (.r (.ro 6)), (.f 27 [])]
def M26_0 {β : Type} (f26_0 : List R → List R → (Bool → Option β) → Option β) (a : List T) : Option ((T → List (List T) → Option β) → Option β) :=
  match gTs P74 a [] with
  | some [.l x0, .l x1] => some fun kk => f26_0 x0 x1 (fun x2 => kk (tB x2) [])
  | _ => none
theorem e26_0 {β : Type} (A : Pr) (B : Pk) (l26_4_0 : (List R → Bool → Option β) → (List R → Option β) → List R → List R → Int → Int → Option β) (x0 x1 : List R) (kk : T → List (List T) → Option β) :
    uTs P74 [.l x0, .l x1] (fun a _ => bodyK (mkK Tryz.prog A B [] [(4, ML26_4 l26_4_0)] (Hn 26).pt []) Tryz.f26 a kk) = G26_0 A B l26_4_0 x0 x1 (fun x2 => kk (tB x2) []) := by kernel_rfl
theorem o26_0 {β : Type} (N : Nat) : Snd (β := β) Tryz.prog Hn 26 (M26_0 (F26_0 re rk N)) := by
  intro a h kk r ha hr
  unfold M26_0 at ha
  split at ha
  · rename_i hs
    cases ha
    have hk := via_pat hs ((e26_0 re rk (L26_4_0 re rk N N) _ _ kk).trans hr)
    exact fn_ok (f := 26) (fn := Tryz.f26) (H := Hn) (by kernel_rfl) (show SndAll Tryz.prog Hn [] from trivial) (spots := [.lp X26_4]) (by kernel_rfl) ⟨cut_lp (id := 4) i26_4 (ol26_4 N N) (fun s kk => by kernel_rfl), trivial⟩ hk
  · cases ha
noncomputable def X12_5 : Code := atF Tryz.f12 [true, true, true, false, true, false, false]
theorem i12_5 : firstReg X12_5 = 5 := by kernel_rfl
def GL12_5_0 {β : Type} (A : Pr) (B : Pk) (f26_0 : List R → List R → (Bool → Option β) → Option β) (l12_5_0 : (Bool → Option β) → (Option β) → Q18 β) (k0 : Bool → Option β) (k1 : Option β) (x0 x1 x2 x3 x4 x5 : Int) (x6 : List R) (x7 x8 x9 xa xb : Int) (xc : List R) (xd xe : Int) (xf xg xh xi xj xk xl xm : Bool) (xn : List R) (xo xp : Int) (xq xr : List R) (xs xt xu xv xw xx : Int) (xy : List R) (xz x10 x11 x12 x13 : Int) (x14 : List R) (x15 x16 : Int) (x17 x18 x19 x1a x1b x1c x1d x1e : Bool) (x1f : List R) (x1g x1h : Int) (x1i x1j : List R) (x1k x1l : Int) : Option β :=
    match (A.cm .lss x1l x1k) with
    | true => (match (A.ix x1l (A.len xr)) with
      | some x1m => (match (B.okE [(Sh.sl 6 (Sh.ag [(Sh.i .i64), (Sh.i .i64), (Sh.i .i64), (Sh.i .i64), (Sh.sl 1 (Sh.i .u8)), (Sh.sl 1 (Sh.i .u8))]))] false xr x1m) with
        | true => (match (A.ix x1l (A.len x1j)) with
          | some x1n => (match (B.okE [(Sh.sl 6 (Sh.ag [(Sh.i .i64), (Sh.i .i64), (Sh.i .i64), (Sh.i .i64), (Sh.sl 1 (Sh.i .u8)), (Sh.sl 1 (Sh.i .u8))]))] false x1j x1n) with
            | true => (f26_0 (B.cl xr x1m 0) (B.cl x1j x1n 0) (fun x1o =>
              match (A.bn x1o) with
                | true => (k0 false)
                | false => (l12_5_0 k0 k1 x0 x1 x2 x3 x4 x5 x6 x7 x8 x9 xa xb xc xd xe xf xg xh xi xj xk xl xm xn xo xp xq xr xs xt xu xv xw xx xy xz x10 x11 x12 x13 x14 x15 x16 x17 x18 x19 x1a x1b x1c x1d x1e x1f x1g x1h x1i x1j x1k (A.ar .add .i64 x1l 1))))
            | false => none)
          | none => none)
        | false => none)
      | none => none)
    | false => k1
def L12_5_0 {β : Type} (A : Pr) (B : Pk) (N : Nat) : Nat → (Bool → Option β) → (Option β) → Q18 β
  | 0, _, _, _, _, _, _, _, _, _, _, _, _, _, _, _, _, _, _, _, _, _, _, _, _, _, _, _, _, _, _, _, _, _, _, _, _, _, _, _, _, _, _, _, _, _, _, _, _, _, _, _, _, _, _, _, _, _, _, _, _ => none
  | n + 1, k0, k1, x0, x1, x2, x3, x4, x5, x6, x7, x8, x9, xa, xb, xc, xd, xe, xf, xg, xh, xi, xj, xk, xl, xm, xn, xo, xp, xq, xr, xs, xt, xu, xv, xw, xx, xy, xz, x10, x11, x12, x13, x14, x15, x16, x17, x18, x19, x1a, x1b, x1c, x1d, x1e, x1f, x1g, x1h, x1i, x1j, x1k, x1l =>
    GL12_5_0 A B (F26_0 A B N) (L12_5_0 A B N n) k0 k1 x0 x1 x2 x3 x4 x5 x6 x7 x8 x9 xa xb xc xd xe xf xg xh xi xj xk xl xm xn xo xp xq xr xs xt xu xv xw xx xy xz x10 x11 x12 x13 x14 x15 x16 x17 x18 x19 x1a x1b x1c x1d x1e x1f x1g x1h x1i x1j x1k x1l
def P75 : List PT := [.us 4, pB, .us 57]
def S75 (x0 : Bool) : List T := (T.u :: T.u :: T.u :: T.u :: (tB x0) :: T.u :: T.u :: T.u :: T.u :: T.u :: T.u :: T.u :: T.u :: T.u :: T.u :: T.u :: T.u :: T.u :: T.u :: T.u :: T.u :: T.u :: T.u :: T.u :: T.u :: T.u :: T.u :: T.u :: T.u :: T.u :: T.u :: T.u :: T.u :: T.u :: T.u :: T.u :: T.u :: T.u :: T.u :: T.u :: T.u :: T.u :: T.u :: T.u :: T.u :: T.u :: T.u :: T.u :: T.u :: T.u :: T.u :: T.u :: T.u :: T.u :: T.u :: T.u :: T.u :: T.u :: T.u :: T.u :: T.u :: T.u :: [])
def P76 : List PT := [.us 62]
def S76  : List T := (T.u :: T.u :: T.u :: T.u :: T.u :: T.u :: T.u :: T.u :: T.u :: T.u :: T.u :: T.u :: T.u :: T.u :: T.u :: T.u :: T.u :: T.u :: T.u :: T.u :: T.u :: T.u :: T.u :: T.u :: T.u :: T.u :: T.u :: T.u :: T.u :: T.u :: T.u :: T.u :: T.u :: T.u :: T.u :: T.u :: T.u :: T.u :: T.u :: T.u :: T.u :: T.u :: T.u :: T.u :: T.u :: T.u :: T.u :: T.u :: T.u :: T.u :: T.u :: T.u :: T.u :: T.u :: T.u :: T.u :: T.u :: T.u :: T.u :: T.u :: T.u :: T.u :: [])
def P77 : List PT := [.us 2, (.bx [pI, pI, pI, pI, pI, pI, (.r (.ro 4)), pI, pI, pI, pI, pI, (.r (.ro 2)), pI, pI, pB, pB, pB, pB, pB, pB, pB, pB, (.r (.ro 1)), pI, pI, (.r (.ro 1)), (.r (.ro 1))]), (.bx [pI, pI, pI, pI, pI, pI, (.r (.ro 4)), pI, pI, pI, pI, pI, (.r (.ro 2)), pI, pI, pB, pB, pB, pB, pB, pB, pB, pB, (.r (.ro 1)), pI, pI, (.r (.ro 1)), (.r (.ro 1))]), .us 41, pI, pI, .us 15]
noncomputable def ML12_5 {β : Type} (l12_5_0 : (Bool → Option β) → (Option β) → Q18 β) (s : List T) : Option ((Ex → List T → Option β) → Option β) :=
  match gTs P77 (clean ((Hn 12).lp 5).1 s) [] with
  | some (.i x0 :: .i x1 :: .i x2 :: .i x3 :: .i x4 :: .i x5 :: .l x6 :: .i x7 :: .i x8 :: .i x9 :: .i xa :: .i xb :: .l xc :: .i xd :: .i xe :: .b xf :: .b xg :: .b xh :: .b xi :: .b xj :: .b xk :: .b xl :: .b xm :: .l xn :: .i xo :: .i xp :: .l xq :: .l xr :: .i xs :: .i xt :: .i xu :: .i xv :: .i xw :: .i xx :: .l xy :: .i xz :: .i x10 :: .i x11 :: .i x12 :: .i x13 :: .l x14 :: .i x15 :: .i x16 :: .b x17 :: .b x18 :: .b x19 :: .b x1a :: .b x1b :: .b x1c :: .b x1d :: .b x1e :: .l x1f :: .i x1g :: .i x1h :: .l x1i :: .l x1j :: .i x1k :: .i x1l :: []) => some fun kk => l12_5_0 (fun x1m => kk Ex.rt (S75 x1m)) (kk (Ex.ex 0) (S76)) x0 x1 x2 x3 x4 x5 x6 x7 x8 x9 xa xb xc xd xe xf xg xh xi xj xk xl xm xn xo xp xq xr xs xt xu xv xw xx xy xz x10 x11 x12 x13 x14 x15 x16 x17 x18 x19 x1a x1b x1c x1d x1e x1f x1g x1h x1i x1j x1k x1l
  | _ => none
theorem e12_5_0 {β : Type} (A : Pr) (B : Pk) (f26_0 : List R → List R → (Bool → Option β) → Option β) (l12_5_0 : (Bool → Option β) → (Option β) → Q18 β) (x0 x1 x2 x3 x4 x5 : Int) (x6 : List R) (x7 x8 x9 xa xb : Int) (xc : List R) (xd xe : Int) (xf xg xh xi xj xk xl xm : Bool) (xn : List R) (xo xp : Int) (xq xr : List R) (xs xt xu xv xw xx : Int) (xy : List R) (xz x10 x11 x12 x13 : Int) (x14 : List R) (x15 x16 : Int) (x17 x18 x19 x1a x1b x1c x1d x1e : Bool) (x1f : List R) (x1g x1h : Int) (x1i x1j : List R) (x1k x1l : Int) (kk : Ex → List T → Option β) :
    uTs P77 (.i x0 :: .i x1 :: .i x2 :: .i x3 :: .i x4 :: .i x5 :: .l x6 :: .i x7 :: .i x8 :: .i x9 :: .i xa :: .i xb :: .l xc :: .i xd :: .i xe :: .b xf :: .b xg :: .b xh :: .b xi :: .b xj :: .b xk :: .b xl :: .b xm :: .l xn :: .i xo :: .i xp :: .l xq :: .l xr :: .i xs :: .i xt :: .i xu :: .i xv :: .i xw :: .i xx :: .l xy :: .i xz :: .i x10 :: .i x11 :: .i x12 :: .i x13 :: .l x14 :: .i x15 :: .i x16 :: .b x17 :: .b x18 :: .b x19 :: .b x1a :: .b x1b :: .b x1c :: .b x1d :: .b x1e :: .l x1f :: .i x1g :: .i x1h :: .l x1i :: .l x1j :: .i x1k :: .i x1l :: []) (fun s _ => evK (mkK Tryz.prog A B [(26, M26_0 f26_0)] [] (Hn 12).pt []) X12_5 s (fun e s' => match e with
      | .nm => (match ML12_5 l12_5_0 s' with | some h => h kk | none => none)
      | .ex m => kk (.ex m) (clean ((Hn 12).lp (firstReg X12_5)).2 s')
      | .rt => kk .rt (clean ((Hn 12).lp (firstReg X12_5)).2 s'))) = GL12_5_0 A B f26_0 l12_5_0 (fun x1m => kk Ex.rt (S75 x1m)) (kk (Ex.ex 0) (S76)) x0 x1 x2 x3 x4 x5 x6 x7 x8 x9 xa xb xc xd xe xf xg xh xi xj xk xl xm xn xo xp xq xr xs xt xu xv xw xx xy xz x10 x11 x12 x13 x14 x15 x16 x17 x18 x19 x1a x1b x1c x1d x1e x1f x1g x1h x1i x1j x1k x1l := by kernel_rfl
theorem ol12_5 {β : Type} (N : Nat) : ∀ n, SndL (β := β) Tryz.prog Hn (Hn 12) X12_5 (ML12_5 (L12_5_0 re rk N n))
  | 0 => by
    intro s h kk r ha hr
    unfold ML12_5 at ha
    split at ha
    · cases ha; cases hr
    · cases ha
  | n + 1 => by
    have ih := ol12_5 (β := β) N n
    intro s h kk r ha hr
    unfold ML12_5 at ha
    split at ha
    · rename_i hs
      cases ha
      have hk := via_pat hs ((e12_5_0 re rk (F26_0 re rk N) (L12_5_0 re rk N n) _ _ _ _ _ _ _ _ _ _ _ _ _ _ _ _ _ _ _ _ _ _ _ _ _ _ _ _ _ _ _ _ _ _ _ _ _ _ _ _ _ _ _ _ _ _ _ _ _ _ _ _ _ _ _ _ _ _ kk).trans hr)
      exact round_ok (show SndAll Tryz.prog Hn [(26, M26_0 (F26_0 re rk N))] from ⟨o26_0 N, trivial⟩) (spots := []) (by kernel_rfl) trivial ih (hd := clean ((Hn 12).lp 5).1 s) (by rw [i12_5]) hk
    · cases ha
def G12_0 {β : Type} (A : Pr) (B : Pk) (f24_0 : Int → Int → Int → Int → Int → Int → List R → Int → Int → Int → Int → Int → Int → List R → Int → Int → Int → Int → Int → List R → Int → Int → Bool → Bool → Bool → Bool → Bool → Bool → Bool → Bool → List R → Int → Int → Int → Int → Int → Int → Int → List R → Int → Int → Bool → Bool → Bool → Bool → Bool → Bool → Bool → Bool → List R → Int → Int → (Bool → Bool → Option β) → Option β) (f25_0 : List R → List R → (Bool → Option β) → Option β) (l12_5_0 : (Bool → Option β) → (Option β) → Q18 β) (x0 x1 x2 x3 x4 x5 : Int) (x6 : List R) (x7 x8 x9 xa xb : Int) (xc : List R) (xd xe : Int) (xf xg xh xi xj xk xl xm : Bool) (xn : List R) (xo xp : Int) (xq xr : List R) (xs xt xu xv xw xx : Int) (xy : List R) (xz x10 x11 x12 x13 : Int) (x14 : List R) (x15 x16 : Int) (x17 x18 x19 x1a x1b x1c x1d x1e : Bool) (x1f : List R) (x1g x1h : Int) (x1i x1j : List R) (k0 : Bool → Option β) : Option β :=
    f24_0 x0 x1 x2 x3 x4 x5 x6 xs xt xu xv xw xx xy x7 x8 x9 xa xb xc xd xe xf xg xh xi xj xk xl xm xn xo xp xz x10 x11 x12 x13 x14 x15 x16 x17 x18 x19 x1a x1b x1c x1d x1e x1f x1g x1h (fun x1k x1l =>
    match (A.bn x1k) with
      | true => (k0 false)
      | false => (match (A.bn x1l) with
        | true => (k0 false)
        | false => (f25_0 xq x1i (fun x1m =>
          match (A.bn x1m) with
            | true => (k0 false)
            | false => (match (A.cm .neq (A.on (A.len xr)) (A.on (A.len x1j))) with
              | true => (k0 false)
              | false => (l12_5_0 (fun x1n =>
                k0 x1n) (k0 true) x0 x1 x2 x3 x4 x5 x6 x7 x8 x9 xa xb xc xd xe xf xg xh xi xj xk xl xm xn xo xp xq xr xs xt xu xv xw xx xy xz x10 x11 x12 x13 x14 x15 x16 x17 x18 x19 x1a x1b x1c x1d x1e x1f x1g x1h x1i x1j (A.on (A.len xr)) 0))))))
def F12_0 {β : Type} (A : Pr) (B : Pk) (N : Nat) (x0 x1 x2 x3 x4 x5 : Int) (x6 : List R) (x7 x8 x9 xa xb : Int) (xc : List R) (xd xe : Int) (xf xg xh xi xj xk xl xm : Bool) (xn : List R) (xo xp : Int) (xq xr : List R) (xs xt xu xv xw xx : Int) (xy : List R) (xz x10 x11 x12 x13 : Int) (x14 : List R) (x15 x16 : Int) (x17 x18 x19 x1a x1b x1c x1d x1e : Bool) (x1f : List R) (x1g x1h : Int) (x1i x1j : List R) (k0 : Bool → Option β) : Option β :=
  G12_0 A B (F24_0 A B N) (F25_0 A B N) (L12_5_0 A B N N) x0 x1 x2 x3 x4 x5 x6 x7 x8 x9 xa xb xc xd xe xf xg xh xi xj xk xl xm xn xo xp xq xr xs xt xu xv xw xx xy xz x10 x11 x12 x13 x14 x15 x16 x17 x18 x19 x1a x1b x1c x1d x1e x1f x1g x1h x1i x1j k0
def P78 : List PT := [(.r (.a [(.i .i64), (.i .i64), (.i .i64), (.i .i64), (.i .i64), (.i .i64), (.ro 4), (.i .i64), (.i .i64), (.i .i64), (.i .i64), (.i .i64), (.ro 2), (.i .i64), (.i .i64), .b, .b, .b, .b, .b, .b, .b, .b, (.ro 1), (.i .i64), (.i .i64), (.ro 1), (.ro 1)])), (.r (.a [(.i .i64), (.i .i64), (.i .i64), (.i .i64), (.i .i64), (.i .i64), (.ro 4), (.i .i64), (.i .i64), (.i .i64), (.i .i64), (.i .i64), (.ro 2), (.i .i64), (.i .i64), .b, .b, .b, .b, .b, .b, .b, .b, (.ro 1), (.i .i64), (.i .i64), (.ro 1), (.ro 1)]))]
def M12_0 {β : Type} (f12_0 : Int → Int → Int → Int → Int → Int → List R → Int → Int → Int → Int → Int → List R → Int → Int → Bool → Bool → Bool → Bool → Bool → Bool → Bool → Bool → List R → Int → Int → List R → List R → Int → Int → Int → Int → Int → Int → List R → Int → Int → Int → Int → Int → List R → Int → Int → Bool → Bool → Bool → Bool → Bool → Bool → Bool → Bool → List R → Int → Int → List R → List R → (Bool → Option β) → Option β) (a : List T) : Option ((T → List (List T) → Option β) → Option β) :=
  match gTs P78 a [] with
  | some (.i x0 :: .i x1 :: .i x2 :: .i x3 :: .i x4 :: .i x5 :: .l x6 :: .i x7 :: .i x8 :: .i x9 :: .i xa :: .i xb :: .l xc :: .i xd :: .i xe :: .b xf :: .b xg :: .b xh :: .b xi :: .b xj :: .b xk :: .b xl :: .b xm :: .l xn :: .i xo :: .i xp :: .l xq :: .l xr :: .i xs :: .i xt :: .i xu :: .i xv :: .i xw :: .i xx :: .l xy :: .i xz :: .i x10 :: .i x11 :: .i x12 :: .i x13 :: .l x14 :: .i x15 :: .i x16 :: .b x17 :: .b x18 :: .b x19 :: .b x1a :: .b x1b :: .b x1c :: .b x1d :: .b x1e :: .l x1f :: .i x1g :: .i x1h :: .l x1i :: .l x1j :: []) => some fun kk => f12_0 x0 x1 x2 x3 x4 x5 x6 x7 x8 x9 xa xb xc xd xe xf xg xh xi xj xk xl xm xn xo xp xq xr xs xt xu xv xw xx xy xz x10 x11 x12 x13 x14 x15 x16 x17 x18 x19 x1a x1b x1c x1d x1e x1f x1g x1h x1i x1j (fun x1k => kk (tB x1k) [])
  | _ => none
theorem e12_0 {β : Type} (A : Pr) (B : Pk) (f24_0 : Int → Int → Int → Int → Int → Int → List R → Int → Int → Int → Int → Int → Int → List R → Int → Int → Int → Int → Int → List R → Int → Int → Bool → Bool → Bool → Bool → Bool → Bool → Bool → Bool → List R → Int → Int → Int → Int → Int → Int → Int → List R → Int → Int → Bool → Bool → Bool → Bool → Bool → Bool → Bool → Bool → List R → Int → Int → (Bool → Bool → Option β) → Option β) (f25_0 : List R → List R → (Bool → Option β) → Option β) (l12_5_0 : (Bool → Option β) → (Option β) → Q18 β) (x0 x1 x2 x3 x4 x5 : Int) (x6 : List R) (x7 x8 x9 xa xb : Int) (xc : List R) (xd xe : Int) (xf xg xh xi xj xk xl xm : Bool) (xn : List R) (xo xp : Int) (xq xr : List R) (xs xt xu xv xw xx : Int) (xy : List R) (xz x10 x11 x12 x13 : Int) (x14 : List R) (x15 x16 : Int) (x17 x18 x19 x1a x1b x1c x1d x1e : Bool) (x1f : List R) (x1g x1h : Int) (x1i x1j : List R) (kk : T → List (List T) → Option β) :
    uTs P78 (.i x0 :: .i x1 :: .i x2 :: .i x3 :: .i x4 :: .i x5 :: .l x6 :: .i x7 :: .i x8 :: .i x9 :: .i xa :: .i xb :: .l xc :: .i xd :: .i xe :: .b xf :: .b xg :: .b xh :: .b xi :: .b xj :: .b xk :: .b xl :: .b xm :: .l xn :: .i xo :: .i xp :: .l xq :: .l xr :: .i xs :: .i xt :: .i xu :: .i xv :: .i xw :: .i xx :: .l xy :: .i xz :: .i x10 :: .i x11 :: .i x12 :: .i x13 :: .l x14 :: .i x15 :: .i x16 :: .b x17 :: .b x18 :: .b x19 :: .b x1a :: .b x1b :: .b x1c :: .b x1d :: .b x1e :: .l x1f :: .i x1g :: .i x1h :: .l x1i :: .l x1j :: []) (fun a _ => bodyK (mkK Tryz.prog A B [(24, M24_0 f24_0), (25, M25_0 f25_0)] [(5, ML12_5 l12_5_0)] (Hn 12).pt []) Tryz.f12 a kk) = G12_0 A B f24_0 f25_0 l12_5_0 x0 x1 x2 x3 x4 x5 x6 x7 x8 x9 xa xb xc xd xe xf xg xh xi xj xk xl xm xn xo xp xq xr xs xt xu xv xw xx xy xz x10 x11 x12 x13 x14 x15 x16 x17 x18 x19 x1a x1b x1c x1d x1e x1f x1g x1h x1i x1j (fun x1k => kk (tB x1k) []) := by kernel_rfl
theorem o12_0 {β : Type} (N : Nat) : Snd (β := β) Tryz.prog Hn 12 (M12_0 (F12_0 re rk N)) := by
  intro a h kk r ha hr
  unfold M12_0 at ha
  split at ha
  · rename_i hs
    cases ha
    have hk := via_pat hs ((e12_0 re rk (F24_0 re rk N) (F25_0 re rk N) (L12_5_0 re rk N N) _ _ _ _ _ _ _ _ _ _ _ _ _ _ _ _ _ _ _ _ _ _ _ _ _ _ _ _ _ _ _ _ _ _ _ _ _ _ _ _ _ _ _ _ _ _ _ _ _ _ _ _ _ _ _ _ kk).trans hr)
    exact fn_ok (f := 12) (fn := Tryz.f12) (H := Hn) (by kernel_rfl) (show SndAll Tryz.prog Hn [(24, M24_0 (F24_0 re rk N)), (25, M25_0 (F25_0 re rk N))] from ⟨o24_0 N, o25_0 N, trivial⟩) (spots := [.lp X12_5]) (by kernel_rfl) ⟨cut_lp (id := 5) i12_5 (ol12_5 N N) (fun s kk => by kernel_rfl), trivial⟩ hk
  · cases ha
noncomputable def X22_4 : Code := atF Tryz.f22 [true, true, false, true, false, false]
theorem i22_4 : firstReg X22_4 = 4 := by kernel_rfl
def GL22_4_0 {β : Type} (A : Pr) (B : Pk) (l22_4_0 : (Bool → Option β) → (Option β) → Q19 β) (k0 : Bool → Option β) (k1 : Option β) (x0 x1 x2 x3 x4 x5 : Int) (x6 : List R) (x7 x8 x9 xa xb xc : Int) (xd : List R) (xe : Int) : Option β :=
    match (A.cm .lss xe (A.on (A.len x6))) with
    | true => (match (A.ix xe (A.len x6)) with
      | some xf => (match (B.okE [(Sh.i .i64), Sh.b, (Sh.i .i64), (Sh.i .i64)] true x6 xf) with
        | true => (match (A.ix xe (A.len xd)) with
          | some xg => (match (B.okE [(Sh.i .i64), Sh.b, (Sh.i .i64), (Sh.i .i64)] true xd xg) with
            | true => (match (A.bn (A.ba (A.cm .eql (B.ci x6 xf 0) (B.ci xd xg 0)) (A.ba (A.be (B.cb x6 xf 1) (B.cb xd xg 1)) (A.ba (A.cm .eql (B.ci x6 xf 2) (B.ci xd xg 2)) (A.ba (A.cm .eql (B.ci x6 xf 3) (B.ci xd xg 3)) true))))) with
              | true => (k0 false)
              | false => (l22_4_0 k0 k1 x0 x1 x2 x3 x4 x5 x6 x7 x8 x9 xa xb xc xd (A.ar .add .i64 xe 1)))
            | false => none)
          | none => none)
        | false => none)
      | none => none)
    | false => k1
def L22_4_0 {β : Type} (A : Pr) (B : Pk) (N : Nat) : Nat → (Bool → Option β) → (Option β) → Q19 β
  | 0, _, _, _, _, _, _, _, _, _, _, _, _, _, _, _, _, _ => none
  | n + 1, k0, k1, x0, x1, x2, x3, x4, x5, x6, x7, x8, x9, xa, xb, xc, xd, xe =>
    GL22_4_0 A B (L22_4_0 A B N n) k0 k1 x0 x1 x2 x3 x4 x5 x6 x7 x8 x9 xa xb xc xd xe
def P79 : List PT := [.us 4, pB, .us 47]
def S79 (x0 : Bool) : List T := (T.u :: T.u :: T.u :: T.u :: (tB x0) :: T.u :: T.u :: T.u :: T.u :: T.u :: T.u :: T.u :: T.u :: T.u :: T.u :: T.u :: T.u :: T.u :: T.u :: T.u :: T.u :: T.u :: T.u :: T.u :: T.u :: T.u :: T.u :: T.u :: T.u :: T.u :: T.u :: T.u :: T.u :: T.u :: T.u :: T.u :: T.u :: T.u :: T.u :: T.u :: T.u :: T.u :: T.u :: T.u :: T.u :: T.u :: T.u :: T.u :: T.u :: T.u :: T.u :: T.u :: [])
def P80 : List PT := [.us 52]
def S80  : List T := (T.u :: T.u :: T.u :: T.u :: T.u :: T.u :: T.u :: T.u :: T.u :: T.u :: T.u :: T.u :: T.u :: T.u :: T.u :: T.u :: T.u :: T.u :: T.u :: T.u :: T.u :: T.u :: T.u :: T.u :: T.u :: T.u :: T.u :: T.u :: T.u :: T.u :: T.u :: T.u :: T.u :: T.u :: T.u :: T.u :: T.u :: T.u :: T.u :: T.u :: T.u :: T.u :: T.u :: T.u :: T.u :: T.u :: T.u :: T.u :: T.u :: T.u :: T.u :: T.u :: [])
def P81 : List PT := [.us 2, (.bx [pI, pI, pI, pI, pI, pI, (.r (.ro 4))]), (.bx [pI, pI, pI, pI, pI, pI, (.r (.ro 4))]), .us 1, pI, .us 46]
noncomputable def ML22_4 {β : Type} (l22_4_0 : (Bool → Option β) → (Option β) → Q19 β) (s : List T) : Option ((Ex → List T → Option β) → Option β) :=
  match gTs P81 (clean ((Hn 22).lp 4).1 s) [] with
  | some [.i x0, .i x1, .i x2, .i x3, .i x4, .i x5, .l x6, .i x7, .i x8, .i x9, .i xa, .i xb, .i xc, .l xd, .i xe] => some fun kk => l22_4_0 (fun xf => kk Ex.rt (S79 xf)) (kk (Ex.ex 0) (S80)) x0 x1 x2 x3 x4 x5 x6 x7 x8 x9 xa xb xc xd xe
  | _ => none
theorem e22_4_0 {β : Type} (A : Pr) (B : Pk) (l22_4_0 : (Bool → Option β) → (Option β) → Q19 β) (x0 x1 x2 x3 x4 x5 : Int) (x6 : List R) (x7 x8 x9 xa xb xc : Int) (xd : List R) (xe : Int) (kk : Ex → List T → Option β) :
    uTs P81 [.i x0, .i x1, .i x2, .i x3, .i x4, .i x5, .l x6, .i x7, .i x8, .i x9, .i xa, .i xb, .i xc, .l xd, .i xe] (fun s _ => evK (mkK Tryz.prog A B [] [] (Hn 22).pt []) X22_4 s (fun e s' => match e with
      | .nm => (match ML22_4 l22_4_0 s' with | some h => h kk | none => none)
      | .ex m => kk (.ex m) (clean ((Hn 22).lp (firstReg X22_4)).2 s')
      | .rt => kk .rt (clean ((Hn 22).lp (firstReg X22_4)).2 s'))) = GL22_4_0 A B l22_4_0 (fun xf => kk Ex.rt (S79 xf)) (kk (Ex.ex 0) (S80)) x0 x1 x2 x3 x4 x5 x6 x7 x8 x9 xa xb xc xd xe := by kernel_rfl
theorem ol22_4 {β : Type} (N : Nat) : ∀ n, SndL (β := β) Tryz.prog Hn (Hn 22) X22_4 (ML22_4 (L22_4_0 re rk N n))
  | 0 => by
    intro s h kk r ha hr
    unfold ML22_4 at ha
    split at ha
    · cases ha; cases hr
    · cases ha
  | n + 1 => by
    have ih := ol22_4 (β := β) N n
    intro s h kk r ha hr
    unfold ML22_4 at ha
    split at ha
    · rename_i hs
      cases ha
      have hk := via_pat hs ((e22_4_0 re rk (L22_4_0 re rk N n) _ _ _ _ _ _ _ _ _ _ _ _ _ _ _ kk).trans hr)
      exact round_ok (show SndAll Tryz.prog Hn [] from trivial) (spots := []) (by kernel_rfl) trivial ih (hd := clean ((Hn 22).lp 4).1 s) (by rw [i22_4]) hk
    · cases ha
def G22_0 {β : Type} (A : Pr) (B : Pk) (l22_4_0 : (Bool → Option β) → (Option β) → Q19 β) (x0 x1 x2 x3 x4 x5 : Int) (x6 : List R) (x7 x8 x9 xa xb xc : Int) (xd : List R) (k0 : Bool → Option β) : Option β :=
    match (A.bn (A.ba (A.cm .eql x0 x7) (A.ba (A.cm .eql x1 x8) (A.ba (A.cm .eql x2 x9) (A.ba (A.cm .eql x3 xa) true))))) with
    | true => (k0 false)
    | false => (match (A.cm .neq x4 xb) with
      | true => (k0 false)
      | false => (match (A.cm .neq x5 xc) with
        | true => (k0 false)
        | false => (match (A.cm .neq (A.on (A.len x6)) (A.on (A.len xd))) with
          | true => (k0 false)
          | false => (l22_4_0 (fun xe =>
            k0 xe) (k0 true) x0 x1 x2 x3 x4 x5 x6 x7 x8 x9 xa xb xc xd 0))))
def F22_0 {β : Type} (A : Pr) (B : Pk) (N : Nat) (x0 x1 x2 x3 x4 x5 : Int) (x6 : List R) (x7 x8 x9 xa xb xc : Int) (xd : List R) (k0 : Bool → Option β) : Option β :=
  G22_0 A B (L22_4_0 A B N N) x0 x1 x2 x3 x4 x5 x6 x7 x8 x9 xa xb xc xd k0
def P82 : List PT := [(.r (.a [(.i .i64), (.i .i64), (.i .i64), (.i .i64), (.i .i64), (.i .i64), (.ro 4)])), (.r (.a [(.i .i64), (.i .i64), (.i .i64), (.i .i64), (.i .i64), (.i .i64), (.ro 4)]))]
def M22_0 {β : Type} (f22_0 : Int → Int → Int → Int → Int → Int → List R → Int → Int → Int → Int → Int → Int → List R → (Bool → Option β) → Option β) (a : List T) : Option ((T → List (List T) → Option β) → Option β) :=
  match gTs P82 a [] with
  | some [.i x0, .i x1, .i x2, .i x3, .i x4, .i x5, .l x6, .i x7, .i x8, .i x9, .i xa, .i xb, .i xc, .l xd] => some fun kk => f22_0 x0 x1 x2 x3 x4 x5 x6 x7 x8 x9 xa xb xc xd (fun xe => kk (tB xe) [])
  | _ => none
theorem e22_0 {β : Type} (A : Pr) (B : Pk) (l22_4_0 : (Bool → Option β) → (Option β) → Q19 β) (x0 x1 x2 x3 x4 x5 : Int) (x6 : List R) (x7 x8 x9 xa xb xc : Int) (xd : List R) (kk : T → List (List T) → Option β) :
    uTs P82 [.i x0, .i x1, .i x2, .i x3, .i x4, .i x5, .l x6, .i x7, .i x8, .i x9, .i xa, .i xb, .i xc, .l xd] (fun a _ => bodyK (mkK Tryz.prog A B [] [(4, ML22_4 l22_4_0)] (Hn 22).pt []) Tryz.f22 a kk) = G22_0 A B l22_4_0 x0 x1 x2 x3 x4 x5 x6 x7 x8 x9 xa xb xc xd (fun xe => kk (tB xe) []) := by kernel_rfl
theorem o22_0 {β : Type} (N : Nat) : Snd (β := β) Tryz.prog Hn 22 (M22_0 (F22_0 re rk N)) := by
  intro a h kk r ha hr
  unfold M22_0 at ha
  split at ha
  · rename_i hs
    cases ha
    have hk := via_pat hs ((e22_0 re rk (L22_4_0 re rk N N) _ _ _ _ _ _ _ _ _ _ _ _ _ _ kk).trans hr)
    exact fn_ok (f := 22) (fn := Tryz.f22) (H := Hn) (by kernel_rfl) (show SndAll Tryz.prog Hn [] from trivial) (spots := [.lp X22_4]) (by kernel_rfl) ⟨cut_lp (id := 4) i22_4 (ol22_4 N N) (fun s kk => by kernel_rfl), trivial⟩ hk
  · cases ha
noncomputable def X23_4 : Code := atF Tryz.f23 [true, true, false, true, false, false]
theorem i23_4 : firstReg X23_4 = 4 := by kernel_rfl
def GL23_4_0 {β : Type} (A : Pr) (B : Pk) (l23_4_0 : (Q20 β) → (Q21 β) → Q22 β) (k0 : Q20 β) (k1 : Q21 β) (x0 x1 x2 x3 x4 : Int) (x5 : List R) (x6 x7 : Int) (x8 x9 xa xb xc xd xe xf : Bool) (xg : List R) (xh xi xj xk xl xm xn : Int) (xo : List R) (xp xq : Int) (xr xs xt xu xv xw xx xy : Bool) (xz : List R) (x10 x11 x12 : Int) : Option β :=
    match (A.cm .lss x12 (A.on (A.len x5))) with
    | true => (match (A.ix x12 (A.len x5)) with
      | some x13 => (match (B.okE [(Sh.i .i64), (Sh.i .i64)] true x5 x13) with
        | true => (match (A.ix x12 (A.len xo)) with
          | some x14 => (match (B.okE [(Sh.i .i64), (Sh.i .i64)] true xo x14) with
            | true => (match (A.bn (A.ba (A.cm .eql (B.ci x5 x13 0) (B.ci xo x14 0)) (A.ba (A.cm .eql (B.ci x5 x13 1) (B.ci xo x14 1)) true))) with
              | true => (k0 x0 x1 x2 x3 x4 x5 x6 x7 x8 x9 xa xb xc xd xe xf xg xh xi xj xk xl xm xn xo xp xq xr xs xt xu xv xw xx xy xz x10 x11 false)
              | false => (l23_4_0 k0 k1 x0 x1 x2 x3 x4 x5 x6 x7 x8 x9 xa xb xc xd xe xf xg xh xi xj xk xl xm xn xo xp xq xr xs xt xu xv xw xx xy xz x10 x11 (A.ar .add .i64 x12 1)))
            | false => none)
          | none => none)
        | false => none)
      | none => none)
    | false => (k1 x0 x1 x2 x3 x4 x5 x6 x7 x8 x9 xa xb xc xd xe xf xg xh xi xj xk xl xm xn xo xp xq xr xs xt xu xv xw xx xy xz x10 x11)
def L23_4_0 {β : Type} (A : Pr) (B : Pk) (N : Nat) : Nat → (Q20 β) → (Q21 β) → Q22 β
  | 0, _, _, _, _, _, _, _, _, _, _, _, _, _, _, _, _, _, _, _, _, _, _, _, _, _, _, _, _, _, _, _, _, _, _, _, _, _, _, _, _, _ => none
  | n + 1, k0, k1, x0, x1, x2, x3, x4, x5, x6, x7, x8, x9, xa, xb, xc, xd, xe, xf, xg, xh, xi, xj, xk, xl, xm, xn, xo, xp, xq, xr, xs, xt, xu, xv, xw, xx, xy, xz, x10, x11, x12 =>
    GL23_4_0 A B (L23_4_0 A B N n) k0 k1 x0 x1 x2 x3 x4 x5 x6 x7 x8 x9 xa xb xc xd xe xf xg xh xi xj xk xl xm xn xo xp xq xr xs xt xu xv xw xx xy xz x10 x11 x12
def P83 : List PT := [.us 2, (.bx [pI, pI, pI, pI, pI, (.r (.ro 2)), pI, pI, pB, pB, pB, pB, pB, pB, pB, pB, (.r (.ro 1)), pI, pI]), (.bx [pI, pI, pI, pI, pI, (.r (.ro 2)), pI, pI, pB, pB, pB, pB, pB, pB, pB, pB, (.r (.ro 1)), pI, pI]), pB, .us 145]
def S83 (x0 x1 x2 x3 x4 : Int) (x5 : List R) (x6 x7 : Int) (x8 x9 xa xb xc xd xe xf : Bool) (xg : List R) (xh xi xj xk xl xm xn : Int) (xo : List R) (xp xq : Int) (xr xs xt xu xv xw xx xy : Bool) (xz : List R) (x10 x11 : Int) (x12 : Bool) : List T := (T.u :: T.u :: (T.bx [(tI x0), (tI x1), (tI x2), (tI x3), (tI x4), (T.r (R.ro 2 x5)), (tI x6), (tI x7), (tB x8), (tB x9), (tB xa), (tB xb), (tB xc), (tB xd), (tB xe), (tB xf), (T.r (R.ro 1 xg)), (tI xh), (tI xi)]) :: (T.bx [(tI xj), (tI xk), (tI xl), (tI xm), (tI xn), (T.r (R.ro 2 xo)), (tI xp), (tI xq), (tB xr), (tB xs), (tB xt), (tB xu), (tB xv), (tB xw), (tB xx), (tB xy), (T.r (R.ro 1 xz)), (tI x10), (tI x11)]) :: (tB x12) :: T.u :: T.u :: T.u :: T.u :: T.u :: T.u :: T.u :: T.u :: T.u :: T.u :: T.u :: T.u :: T.u :: T.u :: T.u :: T.u :: T.u :: T.u :: T.u :: T.u :: T.u :: T.u :: T.u :: T.u :: T.u :: T.u :: T.u :: T.u :: T.u :: T.u :: T.u :: T.u :: T.u :: T.u :: T.u :: T.u :: T.u :: T.u :: T.u :: T.u :: T.u :: T.u :: T.u :: T.u :: T.u :: T.u :: T.u :: T.u :: T.u :: T.u :: T.u :: T.u :: T.u :: T.u :: T.u :: T.u :: T.u :: T.u :: T.u :: T.u :: T.u :: T.u :: T.u :: T.u :: T.u :: T.u :: T.u :: T.u :: T.u :: T.u :: T.u :: T.u :: T.u :: T.u :: T.u :: T.u :: T.u :: T.u :: T.u :: T.u :: T.u :: T.u :: T.u :: T.u :: T.u :: T.u :: T.u :: T.u :: T.u :: T.u :: T.u :: T.u :: T.u :: T.u :: T.u :: T.u :: T.u :: T.u :: T.u :: T.u :: T.u :: T.u :: T.u :: T.u :: T.u :: T.u :: T.u :: T.u :: T.u :: T.u :: T.u :: T.u :: T.u :: T.u :: T.u :: T.u :: T.u :: T.u :: T.u :: T.u :: T.u :: T.u :: T.u :: T.u :: T.u :: T.u :: T.u :: T.u :: T.u :: T.u :: T.u :: T.u :: T.u :: T.u :: T.u :: T.u :: T.u :: T.u :: T.u :: T.u :: T.u :: T.u :: T.u :: T.u :: T.u :: [])
def P84 : List PT := [.us 2, (.bx [pI, pI, pI, pI, pI, (.r (.ro 2)), pI, pI, pB, pB, pB, pB, pB, pB, pB, pB, (.r (.ro 1)), pI, pI]), (.bx [pI, pI, pI, pI, pI, (.r (.ro 2)), pI, pI, pB, pB, pB, pB, pB, pB, pB, pB, (.r (.ro 1)), pI, pI]), .us 146]
def S84 (x0 x1 x2 x3 x4 : Int) (x5 : List R) (x6 x7 : Int) (x8 x9 xa xb xc xd xe xf : Bool) (xg : List R) (xh xi xj xk xl xm xn : Int) (xo : List R) (xp xq : Int) (xr xs xt xu xv xw xx xy : Bool) (xz : List R) (x10 x11 : Int) : List T := (T.u :: T.u :: (T.bx [(tI x0), (tI x1), (tI x2), (tI x3), (tI x4), (T.r (R.ro 2 x5)), (tI x6), (tI x7), (tB x8), (tB x9), (tB xa), (tB xb), (tB xc), (tB xd), (tB xe), (tB xf), (T.r (R.ro 1 xg)), (tI xh), (tI xi)]) :: (T.bx [(tI xj), (tI xk), (tI xl), (tI xm), (tI xn), (T.r (R.ro 2 xo)), (tI xp), (tI xq), (tB xr), (tB xs), (tB xt), (tB xu), (tB xv), (tB xw), (tB xx), (tB xy), (T.r (R.ro 1 xz)), (tI x10), (tI x11)]) :: T.u :: T.u :: T.u :: T.u :: T.u :: T.u :: T.u :: T.u :: T.u :: T.u :: T.u :: T.u :: T.u :: T.u :: T.u :: T.u :: T.u :: T.u :: T.u :: T.u :: T.u :: T.u :: T.u :: T.u :: T.u :: T.u :: T.u :: T.u :: T.u :: T.u :: T.u :: T.u :: T.u :: T.u :: T.u :: T.u :: T.u :: T.u :: T.u :: T.u :: T.u :: T.u :: T.u :: T.u :: T.u :: T.u :: T.u :: T.u :: T.u :: T.u :: T.u :: T.u :: T.u :: T.u :: T.u :: T.u :: T.u :: T.u :: T.u :: T.u :: T.u :: T.u :: T.u :: T.u :: T.u :: T.u :: T.u :: T.u :: T.u :: T.u :: T.u :: T.u :: T.u :: T.u :: T.u :: T.u :: T.u :: T.u :: T.u :: T.u :: T.u :: T.u :: T.u :: T.u :: T.u :: T.u :: T.u :: T.u :: T.u :: T.u :: T.u :: T.u :: T.u :: T.u :: T.u :: T.u :: T.u :: T.u :: T.u :: T.u :: T.u :: T.u :: T.u :: T.u :: T.u :: T.u :: T.u :: T.u :: T.u :: T.u :: T.u :: T.u :: T.u :: T.u :: T.u :: T.u :: T.u :: T.u :: T.u :: T.u :: T.u :: T.u :: T.u :: T.u :: T.u :: T.u :: T.u :: T.u :: T.u :: T.u :: T.u :: T.u :: T.u :: T.u :: T.u :: T.u :: T.u :: T.u :: T.u :: T.u :: T.u :: T.u :: T.u :: T.u :: T.u :: T.u :: [])
def P85 : List PT := [.us 2, (.bx [pI, pI, pI, pI, pI, (.r (.ro 2)), pI, pI, pB, pB, pB, pB, pB, pB, pB, pB, (.r (.ro 1)), pI, pI]), (.bx [pI, pI, pI, pI, pI, (.r (.ro 2)), pI, pI, pB, pB, pB, pB, pB, pB, pB, pB, (.r (.ro 1)), pI, pI]), .us 1, pI, .us 144]
noncomputable def ML23_4 {β : Type} (l23_4_0 : (Q20 β) → (Q21 β) → Q22 β) (s : List T) : Option ((Ex → List T → Option β) → Option β) :=
  match gTs P85 (clean ((Hn 23).lp 4).1 s) [] with
  | some (.i x0 :: .i x1 :: .i x2 :: .i x3 :: .i x4 :: .l x5 :: .i x6 :: .i x7 :: .b x8 :: .b x9 :: .b xa :: .b xb :: .b xc :: .b xd :: .b xe :: .b xf :: .l xg :: .i xh :: .i xi :: .i xj :: .i xk :: .i xl :: .i xm :: .i xn :: .l xo :: .i xp :: .i xq :: .b xr :: .b xs :: .b xt :: .b xu :: .b xv :: .b xw :: .b xx :: .b xy :: .l xz :: .i x10 :: .i x11 :: .i x12 :: []) => some fun kk => l23_4_0 (fun x13 x14 x15 x16 x17 x18 x19 x1a x1b x1c x1d x1e x1f x1g x1h x1i x1j x1k x1l x1m x1n x1o x1p x1q x1r x1s x1t x1u x1v x1w x1x x1y x1z x20 x21 x22 x23 x24 x25 => kk Ex.rt (S83 x13 x14 x15 x16 x17 x18 x19 x1a x1b x1c x1d x1e x1f x1g x1h x1i x1j x1k x1l x1m x1n x1o x1p x1q x1r x1s x1t x1u x1v x1w x1x x1y x1z x20 x21 x22 x23 x24 x25)) (fun x26 x27 x28 x29 x2a x2b x2c x2d x2e x2f x2g x2h x2i x2j x2k x2l x2m x2n x2o x2p x2q x2r x2s x2t x2u x2v x2w x2x x2y x2z x30 x31 x32 x33 x34 x35 x36 x37 => kk (Ex.ex 0) (S84 x26 x27 x28 x29 x2a x2b x2c x2d x2e x2f x2g x2h x2i x2j x2k x2l x2m x2n x2o x2p x2q x2r x2s x2t x2u x2v x2w x2x x2y x2z x30 x31 x32 x33 x34 x35 x36 x37)) x0 x1 x2 x3 x4 x5 x6 x7 x8 x9 xa xb xc xd xe xf xg xh xi xj xk xl xm xn xo xp xq xr xs xt xu xv xw xx xy xz x10 x11 x12
  | _ => none
theorem e23_4_0 {β : Type} (A : Pr) (B : Pk) (l23_4_0 : (Q20 β) → (Q21 β) → Q22 β) (x0 x1 x2 x3 x4 : Int) (x5 : List R) (x6 x7 : Int) (x8 x9 xa xb xc xd xe xf : Bool) (xg : List R) (xh xi xj xk xl xm xn : Int) (xo : List R) (xp xq : Int) (xr xs xt xu xv xw xx xy : Bool) (xz : List R) (x10 x11 x12 : Int) (kk : Ex → List T → Option β) :
    uTs P85 (.i x0 :: .i x1 :: .i x2 :: .i x3 :: .i x4 :: .l x5 :: .i x6 :: .i x7 :: .b x8 :: .b x9 :: .b xa :: .b xb :: .b xc :: .b xd :: .b xe :: .b xf :: .l xg :: .i xh :: .i xi :: .i xj :: .i xk :: .i xl :: .i xm :: .i xn :: .l xo :: .i xp :: .i xq :: .b xr :: .b xs :: .b xt :: .b xu :: .b xv :: .b xw :: .b xx :: .b xy :: .l xz :: .i x10 :: .i x11 :: .i x12 :: []) (fun s _ => evK (mkK Tryz.prog A B [] [] (Hn 23).pt []) X23_4 s (fun e s' => match e with
      | .nm => (match ML23_4 l23_4_0 s' with | some h => h kk | none => none)
      | .ex m => kk (.ex m) (clean ((Hn 23).lp (firstReg X23_4)).2 s')
      | .rt => kk .rt (clean ((Hn 23).lp (firstReg X23_4)).2 s'))) = GL23_4_0 A B l23_4_0 (fun x13 x14 x15 x16 x17 x18 x19 x1a x1b x1c x1d x1e x1f x1g x1h x1i x1j x1k x1l x1m x1n x1o x1p x1q x1r x1s x1t x1u x1v x1w x1x x1y x1z x20 x21 x22 x23 x24 x25 => kk Ex.rt (S83 x13 x14 x15 x16 x17 x18 x19 x1a x1b x1c x1d x1e x1f x1g x1h x1i x1j x1k x1l x1m x1n x1o x1p x1q x1r x1s x1t x1u x1v x1w x1x x1y x1z x20 x21 x22 x23 x24 x25)) (fun x26 x27 x28 x29 x2a x2b x2c x2d x2e x2f x2g x2h x2i x2j x2k x2l x2m x2n x2o x2p x2q x2r x2s x2t x2u x2v x2w x2x x2y x2z x30 x31 x32 x33 x34 x35 x36 x37 => kk (Ex.ex 0) (S84 x26 x27 x28 x29 x2a x2b x2c x2d x2e x2f x2g x2h x2i x2j x2k x2l x2m x2n x2o x2p x2q x2r x2s x2t x2u x2v x2w x2x x2y x2z x30 x31 x32 x33 x34 x35 x36 x37)) x0 x1 x2 x3 x4 x5 x6 x7 x8 x9 xa xb xc xd xe xf xg xh xi xj xk xl xm xn xo xp xq xr xs xt xu xv xw xx xy xz x10 x11 x12 := by kernel_rfl
theorem ol23_4 {β : Type} (N : Nat) : ∀ n, SndL (β := β) Tryz.prog Hn (Hn 23) X23_4 (ML23_4 (L23_4_0 re rk N n))
  | 0 => by
    intro s h kk r ha hr
    unfold ML23_4 at ha
    split at ha
    · cases ha; cases hr
    · cases ha
  | n + 1 => by
    have ih := ol23_4 (β := β) N n
    intro s h kk r ha hr
    unfold ML23_4 at ha
    split at ha
    · rename_i hs
      cases ha
      have hk := via_pat hs ((e23_4_0 re rk (L23_4_0 re rk N n) _ _ _ _ _ _ _ _ _ _ _ _ _ _ _ _ _ _ _ _ _ _ _ _ _ _ _ _ _ _ _ _ _ _ _ _ _ _ _ kk).trans hr)
      exact round_ok (show SndAll Tryz.prog Hn [] from trivial) (spots := []) (by kernel_rfl) trivial ih (hd := clean ((Hn 23).lp 4).1 s) (by rw [i23_4]) hk
    · cases ha
noncomputable def X23_9 : Code := atF Tryz.f23 [true, true, true, false, true, false, false]
theorem i23_9 : firstReg X23_9 = 9 := by kernel_rfl
def GL23_9_0 {β : Type} (A : Pr) (B : Pk) (l23_9_0 : (Bool → Option β) → (Option β) → Q22 β) (k0 : Bool → Option β) (k1 : Option β) (x0 x1 x2 x3 x4 : Int) (x5 : List R) (x6 x7 : Int) (x8 x9 xa xb xc xd xe xf : Bool) (xg : List R) (xh xi xj xk xl xm xn : Int) (xo : List R) (xp xq : Int) (xr xs xt xu xv xw xx xy : Bool) (xz : List R) (x10 x11 x12 : Int) : Option β :=
    match (A.cm .lss x12 (A.on (A.len xg))) with
    | true => (match (A.ix x12 (A.len xg)) with
      | some x13 => (match (B.okE [(Sh.i .i64)] false xg x13) with
        | true => (match (A.ix x12 (A.len xz)) with
          | some x14 => (match (B.okE [(Sh.i .i64)] false xz x14) with
            | true => (match (A.cm .neq (B.ci xg x13 0) (B.ci xz x14 0)) with
              | true => (k0 false)
              | false => (l23_9_0 k0 k1 x0 x1 x2 x3 x4 x5 x6 x7 x8 x9 xa xb xc xd xe xf xg xh xi xj xk xl xm xn xo xp xq xr xs xt xu xv xw xx xy xz x10 x11 (A.ar .add .i64 x12 1)))
            | false => none)
          | none => none)
        | false => none)
      | none => none)
    | false => k1
def L23_9_0 {β : Type} (A : Pr) (B : Pk) (N : Nat) : Nat → (Bool → Option β) → (Option β) → Q22 β
  | 0, _, _, _, _, _, _, _, _, _, _, _, _, _, _, _, _, _, _, _, _, _, _, _, _, _, _, _, _, _, _, _, _, _, _, _, _, _, _, _, _, _ => none
  | n + 1, k0, k1, x0, x1, x2, x3, x4, x5, x6, x7, x8, x9, xa, xb, xc, xd, xe, xf, xg, xh, xi, xj, xk, xl, xm, xn, xo, xp, xq, xr, xs, xt, xu, xv, xw, xx, xy, xz, x10, x11, x12 =>
    GL23_9_0 A B (L23_9_0 A B N n) k0 k1 x0 x1 x2 x3 x4 x5 x6 x7 x8 x9 xa xb xc xd xe xf xg xh xi xj xk xl xm xn xo xp xq xr xs xt xu xv xw xx xy xz x10 x11 x12
def P86 : List PT := [.us 4, pB, .us 145]
def S86 (x0 : Bool) : List T := (T.u :: T.u :: T.u :: T.u :: (tB x0) :: T.u :: T.u :: T.u :: T.u :: T.u :: T.u :: T.u :: T.u :: T.u :: T.u :: T.u :: T.u :: T.u :: T.u :: T.u :: T.u :: T.u :: T.u :: T.u :: T.u :: T.u :: T.u :: T.u :: T.u :: T.u :: T.u :: T.u :: T.u :: T.u :: T.u :: T.u :: T.u :: T.u :: T.u :: T.u :: T.u :: T.u :: T.u :: T.u :: T.u :: T.u :: T.u :: T.u :: T.u :: T.u :: T.u :: T.u :: T.u :: T.u :: T.u :: T.u :: T.u :: T.u :: T.u :: T.u :: T.u :: T.u :: T.u :: T.u :: T.u :: T.u :: T.u :: T.u :: T.u :: T.u :: T.u :: T.u :: T.u :: T.u :: T.u :: T.u :: T.u :: T.u :: T.u :: T.u :: T.u :: T.u :: T.u :: T.u :: T.u :: T.u :: T.u :: T.u :: T.u :: T.u :: T.u :: T.u :: T.u :: T.u :: T.u :: T.u :: T.u :: T.u :: T.u :: T.u :: T.u :: T.u :: T.u :: T.u :: T.u :: T.u :: T.u :: T.u :: T.u :: T.u :: T.u :: T.u :: T.u :: T.u :: T.u :: T.u :: T.u :: T.u :: T.u :: T.u :: T.u :: T.u :: T.u :: T.u :: T.u :: T.u :: T.u :: T.u :: T.u :: T.u :: T.u :: T.u :: T.u :: T.u :: T.u :: T.u :: T.u :: T.u :: T.u :: T.u :: T.u :: T.u :: T.u :: T.u :: T.u :: T.u :: T.u :: T.u :: T.u :: T.u :: [])
def P87 : List PT := [.us 150]
def S87  : List T := (T.u :: T.u :: T.u :: T.u :: T.u :: T.u :: T.u :: T.u :: T.u :: T.u :: T.u :: T.u :: T.u :: T.u :: T.u :: T.u :: T.u :: T.u :: T.u :: T.u :: T.u :: T.u :: T.u :: T.u :: T.u :: T.u :: T.u :: T.u :: T.u :: T.u :: T.u :: T.u :: T.u :: T.u :: T.u :: T.u :: T.u :: T.u :: T.u :: T.u :: T.u :: T.u :: T.u :: T.u :: T.u :: T.u :: T.u :: T.u :: T.u :: T.u :: T.u :: T.u :: T.u :: T.u :: T.u :: T.u :: T.u :: T.u :: T.u :: T.u :: T.u :: T.u :: T.u :: T.u :: T.u :: T.u :: T.u :: T.u :: T.u :: T.u :: T.u :: T.u :: T.u :: T.u :: T.u :: T.u :: T.u :: T.u :: T.u :: T.u :: T.u :: T.u :: T.u :: T.u :: T.u :: T.u :: T.u :: T.u :: T.u :: T.u :: T.u :: T.u :: T.u :: T.u :: T.u :: T.u :: T.u :: T.u :: T.u :: T.u :: T.u :: T.u :: T.u :: T.u :: T.u :: T.u :: T.u :: T.u :: T.u :: T.u :: T.u :: T.u :: T.u :: T.u :: T.u :: T.u :: T.u :: T.u :: T.u :: T.u :: T.u :: T.u :: T.u :: T.u :: T.u :: T.u :: T.u :: T.u :: T.u :: T.u :: T.u :: T.u :: T.u :: T.u :: T.u :: T.u :: T.u :: T.u :: T.u :: T.u :: T.u :: T.u :: T.u :: T.u :: T.u :: T.u :: T.u :: T.u :: T.u :: T.u :: [])
def P88 : List PT := [.us 2, (.bx [pI, pI, pI, pI, pI, (.r (.ro 2)), pI, pI, pB, pB, pB, pB, pB, pB, pB, pB, (.r (.ro 1)), pI, pI]), (.bx [pI, pI, pI, pI, pI, (.r (.ro 2)), pI, pI, pB, pB, pB, pB, pB, pB, pB, pB, (.r (.ro 1)), pI, pI]), .us 2, pI, .us 143]
noncomputable def ML23_9 {β : Type} (l23_9_0 : (Bool → Option β) → (Option β) → Q22 β) (s : List T) : Option ((Ex → List T → Option β) → Option β) :=
  match gTs P88 (clean ((Hn 23).lp 9).1 s) [] with
  | some (.i x0 :: .i x1 :: .i x2 :: .i x3 :: .i x4 :: .l x5 :: .i x6 :: .i x7 :: .b x8 :: .b x9 :: .b xa :: .b xb :: .b xc :: .b xd :: .b xe :: .b xf :: .l xg :: .i xh :: .i xi :: .i xj :: .i xk :: .i xl :: .i xm :: .i xn :: .l xo :: .i xp :: .i xq :: .b xr :: .b xs :: .b xt :: .b xu :: .b xv :: .b xw :: .b xx :: .b xy :: .l xz :: .i x10 :: .i x11 :: .i x12 :: []) => some fun kk => l23_9_0 (fun x13 => kk Ex.rt (S86 x13)) (kk (Ex.ex 2) (S87)) x0 x1 x2 x3 x4 x5 x6 x7 x8 x9 xa xb xc xd xe xf xg xh xi xj xk xl xm xn xo xp xq xr xs xt xu xv xw xx xy xz x10 x11 x12
  | _ => none
theorem e23_9_0 {β : Type} (A : Pr) (B : Pk) (l23_9_0 : (Bool → Option β) → (Option β) → Q22 β) (x0 x1 x2 x3 x4 : Int) (x5 : List R) (x6 x7 : Int) (x8 x9 xa xb xc xd xe xf : Bool) (xg : List R) (xh xi xj xk xl xm xn : Int) (xo : List R) (xp xq : Int) (xr xs xt xu xv xw xx xy : Bool) (xz : List R) (x10 x11 x12 : Int) (kk : Ex → List T → Option β) :
    uTs P88 (.i x0 :: .i x1 :: .i x2 :: .i x3 :: .i x4 :: .l x5 :: .i x6 :: .i x7 :: .b x8 :: .b x9 :: .b xa :: .b xb :: .b xc :: .b xd :: .b xe :: .b xf :: .l xg :: .i xh :: .i xi :: .i xj :: .i xk :: .i xl :: .i xm :: .i xn :: .l xo :: .i xp :: .i xq :: .b xr :: .b xs :: .b xt :: .b xu :: .b xv :: .b xw :: .b xx :: .b xy :: .l xz :: .i x10 :: .i x11 :: .i x12 :: []) (fun s _ => evK (mkK Tryz.prog A B [] [] (Hn 23).pt []) X23_9 s (fun e s' => match e with
      | .nm => (match ML23_9 l23_9_0 s' with | some h => h kk | none => none)
      | .ex m => kk (.ex m) (clean ((Hn 23).lp (firstReg X23_9)).2 s')
      | .rt => kk .rt (clean ((Hn 23).lp (firstReg X23_9)).2 s'))) = GL23_9_0 A B l23_9_0 (fun x13 => kk Ex.rt (S86 x13)) (kk (Ex.ex 2) (S87)) x0 x1 x2 x3 x4 x5 x6 x7 x8 x9 xa xb xc xd xe xf xg xh xi xj xk xl xm xn xo xp xq xr xs xt xu xv xw xx xy xz x10 x11 x12 := by kernel_rfl
theorem ol23_9 {β : Type} (N : Nat) : ∀ n, SndL (β := β) Tryz.prog Hn (Hn 23) X23_9 (ML23_9 (L23_9_0 re rk N n))
  | 0 => by
    intro s h kk r ha hr
    unfold ML23_9 at ha
    split at ha
    · cases ha; cases hr
    · cases ha
  | n + 1 => by
    have ih := ol23_9 (β := β) N n
    intro s h kk r ha hr
    unfold ML23_9 at ha
    split at ha
    · rename_i hs
      cases ha
      have hk := via_pat hs ((e23_9_0 re rk (L23_9_0 re rk N n) _ _ _ _ _ _ _ _ _ _ _ _ _ _ _ _ _ _ _ _ _ _ _ _ _ _ _ _ _ _ _ _ _ _ _ _ _ _ _ kk).trans hr)
      exact round_ok (show SndAll Tryz.prog Hn [] from trivial) (spots := []) (by kernel_rfl) trivial ih (hd := clean ((Hn 23).lp 9).1 s) (by rw [i23_9]) hk
    · cases ha
def G23_0 {β : Type} (A : Pr) (B : Pk) (l23_4_0 : (Q20 β) → (Q21 β) → Q22 β) (l23_9_0 : (Bool → Option β) → (Option β) → Q22 β) (x0 x1 x2 x3 x4 : Int) (x5 : List R) (x6 x7 : Int) (x8 x9 xa xb xc xd xe xf : Bool) (xg : List R) (xh xi xj xk xl xm xn : Int) (xo : List R) (xp xq : Int) (xr xs xt xu xv xw xx xy : Bool) (xz : List R) (x10 x11 : Int) (k0 : Bool → Option β) : Option β :=
    match (A.cm .neq x0 xj) with
    | true => (k0 false)
    | false => (match (A.cm .neq x1 xk) with
      | true => (k0 false)
      | false => (match (A.cm .neq x2 xl) with
        | true => (k0 false)
        | false => (match (A.cm .neq x3 xm) with
          | true => (k0 false)
          | false => (match (A.cm .neq x4 xn) with
            | true => (k0 false)
            | false => (match (A.cm .neq x6 xp) with
              | true => (k0 false)
              | false => (match (A.cm .neq x7 xq) with
                | true => (k0 false)
                | false => (match (A.bn (A.ba (A.be x8 xr) (A.ba (A.be x9 xs) (A.ba (A.be xa xt) (A.ba (A.be xb xu) (A.ba (A.be xc xv) true)))))) with
                  | true => (k0 false)
                  | false => (match (A.bn (A.be xd xw)) with
                    | true => (k0 false)
                    | false => (match (A.bn (A.be xe xx)) with
                      | true => (k0 false)
                      | false => (match (A.bn (A.be xf xy)) with
                        | true => (k0 false)
                        | false => (match (A.cm .neq xh x10) with
                          | true => (k0 false)
                          | false => (match (A.cm .neq xi x11) with
                            | true => (k0 false)
                            | false => (match (A.cm .neq (A.on (A.len x5)) (A.on (A.len xo))) with
                              | true => (k0 false)
                              | false => (match (A.cm .neq (A.on (A.len xg)) (A.on (A.len xz))) with
                                | true => (k0 false)
                                | false => (l23_4_0 (fun x12 x13 x14 x15 x16 x17 x18 x19 x1a x1b x1c x1d x1e x1f x1g x1h x1i x1j x1k x1l x1m x1n x1o x1p x1q x1r x1s x1t x1u x1v x1w x1x x1y x1z x20 x21 x22 x23 x24 =>
                                  k0 x24) (fun x25 x26 x27 x28 x29 x2a x2b x2c x2d x2e x2f x2g x2h x2i x2j x2k x2l x2m x2n x2o x2p x2q x2r x2s x2t x2u x2v x2w x2x x2y x2z x30 x31 x32 x33 x34 x35 x36 =>
                                  l23_9_0 (fun x37 =>
                                    k0 x37) (k0 true) x25 x26 x27 x28 x29 x2a x2b x2c x2d x2e x2f x2g x2h x2i x2j x2k x2l x2m x2n x2o x2p x2q x2r x2s x2t x2u x2v x2w x2x x2y x2z x30 x31 x32 x33 x34 x35 x36 0) x0 x1 x2 x3 x4 x5 x6 x7 x8 x9 xa xb xc xd xe xf xg xh xi xj xk xl xm xn xo xp xq xr xs xt xu xv xw xx xy xz x10 x11 0)))))))))))))))
def F23_0 {β : Type} (A : Pr) (B : Pk) (N : Nat) (x0 x1 x2 x3 x4 : Int) (x5 : List R) (x6 x7 : Int) (x8 x9 xa xb xc xd xe xf : Bool) (xg : List R) (xh xi xj xk xl xm xn : Int) (xo : List R) (xp xq : Int) (xr xs xt xu xv xw xx xy : Bool) (xz : List R) (x10 x11 : Int) (k0 : Bool → Option β) : Option β :=
  G23_0 A B (L23_4_0 A B N N) (L23_9_0 A B N N) x0 x1 x2 x3 x4 x5 x6 x7 x8 x9 xa xb xc xd xe xf xg xh xi xj xk xl xm xn xo xp xq xr xs xt xu xv xw xx xy xz x10 x11 k0
def P89 : List PT := [(.r (.a [(.i .i64), (.i .i64), (.i .i64), (.i .i64), (.i .i64), (.ro 2), (.i .i64), (.i .i64), .b, .b, .b, .b, .b, .b, .b, .b, (.ro 1), (.i .i64), (.i .i64)])), (.r (.a [(.i .i64), (.i .i64), (.i .i64), (.i .i64), (.i .i64), (.ro 2), (.i .i64), (.i .i64), .b, .b, .b, .b, .b, .b, .b, .b, (.ro 1), (.i .i64), (.i .i64)]))]
def M23_0 {β : Type} (f23_0 : Int → Int → Int → Int → Int → List R → Int → Int → Bool → Bool → Bool → Bool → Bool → Bool → Bool → Bool → List R → Int → Int → Int → Int → Int → Int → Int → List R → Int → Int → Bool → Bool → Bool → Bool → Bool → Bool → Bool → Bool → List R → Int → Int → (Bool → Option β) → Option β) (a : List T) : Option ((T → List (List T) → Option β) → Option β) :=
  match gTs P89 a [] with
  | some (.i x0 :: .i x1 :: .i x2 :: .i x3 :: .i x4 :: .l x5 :: .i x6 :: .i x7 :: .b x8 :: .b x9 :: .b xa :: .b xb :: .b xc :: .b xd :: .b xe :: .b xf :: .l xg :: .i xh :: .i xi :: .i xj :: .i xk :: .i xl :: .i xm :: .i xn :: .l xo :: .i xp :: .i xq :: .b xr :: .b xs :: .b xt :: .b xu :: .b xv :: .b xw :: .b xx :: .b xy :: .l xz :: .i x10 :: .i x11 :: []) => some fun kk => f23_0 x0 x1 x2 x3 x4 x5 x6 x7 x8 x9 xa xb xc xd xe xf xg xh xi xj xk xl xm xn xo xp xq xr xs xt xu xv xw xx xy xz x10 x11 (fun x12 => kk (tB x12) [])
  | _ => none
theorem e23_0 {β : Type} (A : Pr) (B : Pk) (l23_4_0 : (Q20 β) → (Q21 β) → Q22 β) (l23_9_0 : (Bool → Option β) → (Option β) → Q22 β) (x0 x1 x2 x3 x4 : Int) (x5 : List R) (x6 x7 : Int) (x8 x9 xa xb xc xd xe xf : Bool) (xg : List R) (xh xi xj xk xl xm xn : Int) (xo : List R) (xp xq : Int) (xr xs xt xu xv xw xx xy : Bool) (xz : List R) (x10 x11 : Int) (kk : T → List (List T) → Option β) :
    uTs P89 (.i x0 :: .i x1 :: .i x2 :: .i x3 :: .i x4 :: .l x5 :: .i x6 :: .i x7 :: .b x8 :: .b x9 :: .b xa :: .b xb :: .b xc :: .b xd :: .b xe :: .b xf :: .l xg :: .i xh :: .i xi :: .i xj :: .i xk :: .i xl :: .i xm :: .i xn :: .l xo :: .i xp :: .i xq :: .b xr :: .b xs :: .b xt :: .b xu :: .b xv :: .b xw :: .b xx :: .b xy :: .l xz :: .i x10 :: .i x11 :: []) (fun a _ => bodyK (mkK Tryz.prog A B [] [(4, ML23_4 l23_4_0), (9, ML23_9 l23_9_0)] (Hn 23).pt []) Tryz.f23 a kk) = G23_0 A B l23_4_0 l23_9_0 x0 x1 x2 x3 x4 x5 x6 x7 x8 x9 xa xb xc xd xe xf xg xh xi xj xk xl xm xn xo xp xq xr xs xt xu xv xw xx xy xz x10 x11 (fun x12 => kk (tB x12) []) := by kernel_rfl
theorem o23_0 {β : Type} (N : Nat) : Snd (β := β) Tryz.prog Hn 23 (M23_0 (F23_0 re rk N)) := by
  intro a h kk r ha hr
  unfold M23_0 at ha
  split at ha
  · rename_i hs
    cases ha
    have hk := via_pat hs ((e23_0 re rk (L23_4_0 re rk N N) (L23_9_0 re rk N N) _ _ _ _ _ _ _ _ _ _ _ _ _ _ _ _ _ _ _ _ _ _ _ _ _ _ _ _ _ _ _ _ _ _ _ _ _ _ kk).trans hr)
    exact fn_ok (f := 23) (fn := Tryz.f23) (H := Hn) (by kernel_rfl) (show SndAll Tryz.prog Hn [] from trivial) (spots := [.lp X23_4, .lp X23_9]) (by kernel_rfl) ⟨cut_lp (id := 4) i23_4 (ol23_4 N N) (fun s kk => by kernel_rfl), cut_lp (id := 9) i23_9 (ol23_9 N N) (fun s kk => by kernel_rfl), trivial⟩ hk
  · cases ha
def G9_0 {β : Type} (A : Pr) (B : Pk) (f22_0 : Int → Int → Int → Int → Int → Int → List R → Int → Int → Int → Int → Int → Int → List R → (Bool → Option β) → Option β) (f23_0 : Int → Int → Int → Int → Int → List R → Int → Int → Bool → Bool → Bool → Bool → Bool → Bool → Bool → Bool → List R → Int → Int → Int → Int → Int → Int → Int → List R → Int → Int → Bool → Bool → Bool → Bool → Bool → Bool → Bool → Bool → List R → Int → Int → (Bool → Option β) → Option β) (x0 x1 x2 x3 x4 x5 : Int) (x6 : List R) (x7 x8 x9 xa xb xc : Int) (xd : List R) (xe xf xg xh xi : Int) (xj : List R) (xk xl : Int) (xm xn xo xp xq xr xs xt : Bool) (xu : List R) (xv xw xx xy xz x10 x11 : Int) (x12 : List R) (x13 x14 : Int) (x15 x16 x17 x18 x19 x1a x1b x1c : Bool) (x1d : List R) (x1e x1f : Int) (k0 : Bool → Bool → Option β) : Option β :=
    f22_0 x0 x1 x2 x3 x4 x5 x6 x7 x8 x9 xa xb xc xd (fun x1g =>
    f23_0 xe xf xg xh xi xj xk xl xm xn xo xp xq xr xs xt xu xv xw xx xy xz x10 x11 x12 x13 x14 x15 x16 x17 x18 x19 x1a x1b x1c x1d x1e x1f (fun x1h =>
      k0 x1g x1h))
def F9_0 {β : Type} (A : Pr) (B : Pk) (N : Nat) (x0 x1 x2 x3 x4 x5 : Int) (x6 : List R) (x7 x8 x9 xa xb xc : Int) (xd : List R) (xe xf xg xh xi : Int) (xj : List R) (xk xl : Int) (xm xn xo xp xq xr xs xt : Bool) (xu : List R) (xv xw xx xy xz x10 x11 : Int) (x12 : List R) (x13 x14 : Int) (x15 x16 x17 x18 x19 x1a x1b x1c : Bool) (x1d : List R) (x1e x1f : Int) (k0 : Bool → Bool → Option β) : Option β :=
  G9_0 A B (F22_0 A B N) (F23_0 A B N) x0 x1 x2 x3 x4 x5 x6 x7 x8 x9 xa xb xc xd xe xf xg xh xi xj xk xl xm xn xo xp xq xr xs xt xu xv xw xx xy xz x10 x11 x12 x13 x14 x15 x16 x17 x18 x19 x1a x1b x1c x1d x1e x1f k0
def M9_0 {β : Type} (f9_0 : Int → Int → Int → Int → Int → Int → List R → Int → Int → Int → Int → Int → Int → List R → Int → Int → Int → Int → Int → List R → Int → Int → Bool → Bool → Bool → Bool → Bool → Bool → Bool → Bool → List R → Int → Int → Int → Int → Int → Int → Int → List R → Int → Int → Bool → Bool → Bool → Bool → Bool → Bool → Bool → Bool → List R → Int → Int → (Bool → Bool → Option β) → Option β) (a : List T) : Option ((T → List (List T) → Option β) → Option β) :=
  match gTs P69 a [] with
  | some (.i x0 :: .i x1 :: .i x2 :: .i x3 :: .i x4 :: .i x5 :: .l x6 :: .i x7 :: .i x8 :: .i x9 :: .i xa :: .i xb :: .i xc :: .l xd :: .i xe :: .i xf :: .i xg :: .i xh :: .i xi :: .l xj :: .i xk :: .i xl :: .b xm :: .b xn :: .b xo :: .b xp :: .b xq :: .b xr :: .b xs :: .b xt :: .l xu :: .i xv :: .i xw :: .i xx :: .i xy :: .i xz :: .i x10 :: .i x11 :: .l x12 :: .i x13 :: .i x14 :: .b x15 :: .b x16 :: .b x17 :: .b x18 :: .b x19 :: .b x1a :: .b x1b :: .b x1c :: .l x1d :: .i x1e :: .i x1f :: []) => some fun kk => f9_0 x0 x1 x2 x3 x4 x5 x6 x7 x8 x9 xa xb xc xd xe xf xg xh xi xj xk xl xm xn xo xp xq xr xs xt xu xv xw xx xy xz x10 x11 x12 x13 x14 x15 x16 x17 x18 x19 x1a x1b x1c x1d x1e x1f (fun x1g x1h => kk (T.tp true [(tB x1g), (tB x1h)]) [])
  | _ => none
theorem e9_0 {β : Type} (A : Pr) (B : Pk) (f22_0 : Int → Int → Int → Int → Int → Int → List R → Int → Int → Int → Int → Int → Int → List R → (Bool → Option β) → Option β) (f23_0 : Int → Int → Int → Int → Int → List R → Int → Int → Bool → Bool → Bool → Bool → Bool → Bool → Bool → Bool → List R → Int → Int → Int → Int → Int → Int → Int → List R → Int → Int → Bool → Bool → Bool → Bool → Bool → Bool → Bool → Bool → List R → Int → Int → (Bool → Option β) → Option β) (x0 x1 x2 x3 x4 x5 : Int) (x6 : List R) (x7 x8 x9 xa xb xc : Int) (xd : List R) (xe xf xg xh xi : Int) (xj : List R) (xk xl : Int) (xm xn xo xp xq xr xs xt : Bool) (xu : List R) (xv xw xx xy xz x10 x11 : Int) (x12 : List R) (x13 x14 : Int) (x15 x16 x17 x18 x19 x1a x1b x1c : Bool) (x1d : List R) (x1e x1f : Int) (kk : T → List (List T) → Option β) :
    uTs P69 (.i x0 :: .i x1 :: .i x2 :: .i x3 :: .i x4 :: .i x5 :: .l x6 :: .i x7 :: .i x8 :: .i x9 :: .i xa :: .i xb :: .i xc :: .l xd :: .i xe :: .i xf :: .i xg :: .i xh :: .i xi :: .l xj :: .i xk :: .i xl :: .b xm :: .b xn :: .b xo :: .b xp :: .b xq :: .b xr :: .b xs :: .b xt :: .l xu :: .i xv :: .i xw :: .i xx :: .i xy :: .i xz :: .i x10 :: .i x11 :: .l x12 :: .i x13 :: .i x14 :: .b x15 :: .b x16 :: .b x17 :: .b x18 :: .b x19 :: .b x1a :: .b x1b :: .b x1c :: .l x1d :: .i x1e :: .i x1f :: []) (fun a _ => bodyK (mkK Tryz.prog A B [(22, M22_0 f22_0), (23, M23_0 f23_0)] [] (Hn 9).pt []) Tryz.f9 a kk) = G9_0 A B f22_0 f23_0 x0 x1 x2 x3 x4 x5 x6 x7 x8 x9 xa xb xc xd xe xf xg xh xi xj xk xl xm xn xo xp xq xr xs xt xu xv xw xx xy xz x10 x11 x12 x13 x14 x15 x16 x17 x18 x19 x1a x1b x1c x1d x1e x1f (fun x1g x1h => kk (T.tp true [(tB x1g), (tB x1h)]) []) := by kernel_rfl
theorem o9_0 {β : Type} (N : Nat) : Snd (β := β) Tryz.prog Hn 9 (M9_0 (F9_0 re rk N)) := by
  intro a h kk r ha hr
  unfold M9_0 at ha
  split at ha
  · rename_i hs
    cases ha
    have hk := via_pat hs ((e9_0 re rk (F22_0 re rk N) (F23_0 re rk N) _ _ _ _ _ _ _ _ _ _ _ _ _ _ _ _ _ _ _ _ _ _ _ _ _ _ _ _ _ _ _ _ _ _ _ _ _ _ _ _ _ _ _ _ _ _ _ _ _ _ _ _ kk).trans hr)
    exact fn_ok (f := 9) (fn := Tryz.f9) (H := Hn) (by kernel_rfl) (show SndAll Tryz.prog Hn [(22, M22_0 (F22_0 re rk N)), (23, M23_0 (F23_0 re rk N))] from ⟨o22_0 N, o23_0 N, trivial⟩) (spots := []) (by kernel_rfl) trivial hk
  · cases ha
noncomputable def X10_4 : Code := atF Tryz.f10 [true, true, false, true, false, false]
theorem i10_4 : firstReg X10_4 = 4 := by kernel_rfl
def GL10_4_0 {β : Type} (A : Pr) (B : Pk) (l10_4_0 : (List R → List R → Bool → Option β) → (List R → List R → Option β) → List R → List R → Int → Int → Option β) (k0 : List R → List R → Bool → Option β) (k1 : List R → List R → Option β) (x0 x1 : List R) (x2 x3 : Int) : Option β :=
    match (A.cm .lss x3 x2) with
    | true => (match (A.ix x3 (A.len x0)) with
      | some x4 => (match (B.okE [Sh.s] false x0 x4) with
        | true => (match (A.ix x3 (A.len x1)) with
          | some x5 => (match (B.okE [Sh.s] false x1 x5) with
            | true => (match (A.bn (A.cs .eql (B.cs x0 x4 0) (B.cs x1 x5 0))) with
              | true => (k0 x0 x1 false)
              | false => (l10_4_0 k0 k1 x0 x1 x2 (A.ar .add .i64 x3 1)))
            | false => none)
          | none => none)
        | false => none)
      | none => none)
    | false => (k1 x0 x1)
def L10_4_0 {β : Type} (A : Pr) (B : Pk) (N : Nat) : Nat → (List R → List R → Bool → Option β) → (List R → List R → Option β) → List R → List R → Int → Int → Option β
  | 0, _, _, _, _, _, _ => none
  | n + 1, k0, k1, x0, x1, x2, x3 =>
    GL10_4_0 A B (L10_4_0 A B N n) k0 k1 x0 x1 x2 x3
noncomputable def ML10_4 {β : Type} (l10_4_0 : (List R → List R → Bool → Option β) → (List R → List R → Option β) → List R → List R → Int → Int → Option β) (s : List T) : Option ((Ex → List T → Option β) → Option β) :=
  match gTs P64 (clean ((Hn 10).lp 4).1 s) [] with
  | some [.l x0, .l x1, .i x2, .i x3] => some fun kk => l10_4_0 (fun x4 x5 x6 => kk Ex.rt (S62 x4 x5 x6)) (fun x7 x8 => kk (Ex.ex 0) (S63 x7 x8)) x0 x1 x2 x3
  | _ => none
theorem e10_4_0 {β : Type} (A : Pr) (B : Pk) (l10_4_0 : (List R → List R → Bool → Option β) → (List R → List R → Option β) → List R → List R → Int → Int → Option β) (x0 x1 : List R) (x2 x3 : Int) (kk : Ex → List T → Option β) :
    uTs P64 [.l x0, .l x1, .i x2, .i x3] (fun s _ => evK (mkK Tryz.prog A B [] [] (Hn 10).pt []) X10_4 s (fun e s' => match e with
      | .nm => (match ML10_4 l10_4_0 s' with | some h => h kk | none => none)
      | .ex m => kk (.ex m) (clean ((Hn 10).lp (firstReg X10_4)).2 s')
      | .rt => kk .rt (clean ((Hn 10).lp (firstReg X10_4)).2 s'))) = GL10_4_0 A B l10_4_0 (fun x4 x5 x6 => kk Ex.rt (S62 x4 x5 x6)) (fun x7 x8 => kk (Ex.ex 0) (S63 x7 x8)) x0 x1 x2 x3 := by kernel_rfl
theorem ol10_4 {β : Type} (N : Nat) : ∀ n, SndL (β := β) Tryz.prog Hn (Hn 10) X10_4 (ML10_4 (L10_4_0 re rk N n))
  | 0 => by
    intro s h kk r ha hr
    unfold ML10_4 at ha
    split at ha
    · cases ha; cases hr
    · cases ha
  | n + 1 => by
    have ih := ol10_4 (β := β) N n
    intro s h kk r ha hr
    unfold ML10_4 at ha
    split at ha
    · rename_i hs
      cases ha
      have hk := via_pat hs ((e10_4_0 re rk (L10_4_0 re rk N n) _ _ _ _ kk).trans hr)
      exact round_ok (show SndAll Tryz.prog Hn [] from trivial) (spots := []) (by kernel_rfl) trivial ih (hd := clean ((Hn 10).lp 4).1 s) (by rw [i10_4]) hk
    · cases ha
def G10_0 {β : Type} (A : Pr) (B : Pk) (l10_4_0 : (List R → List R → Bool → Option β) → (List R → List R → Option β) → List R → List R → Int → Int → Option β) (x0 x1 : List R) (k0 : Bool → Option β) : Option β :=
    match (A.cm .neq (A.on (A.len x0)) (A.on (A.len x1))) with
    | true => (k0 false)
    | false => (l10_4_0 (fun x2 x3 x4 =>
      k0 x4) (fun x5 x6 =>
      k0 true) x0 x1 (A.on (A.len x0)) 0)
def F10_0 {β : Type} (A : Pr) (B : Pk) (N : Nat) (x0 x1 : List R) (k0 : Bool → Option β) : Option β :=
  G10_0 A B (L10_4_0 A B N N) x0 x1 k0
def M10_0 {β : Type} (f10_0 : List R → List R → (Bool → Option β) → Option β) (a : List T) : Option ((T → List (List T) → Option β) → Option β) :=
  match gTs P65 a [] with
  | some [.l x0, .l x1] => some fun kk => f10_0 x0 x1 (fun x2 => kk (tB x2) [])
  | _ => none
theorem e10_0 {β : Type} (A : Pr) (B : Pk) (l10_4_0 : (List R → List R → Bool → Option β) → (List R → List R → Option β) → List R → List R → Int → Int → Option β) (x0 x1 : List R) (kk : T → List (List T) → Option β) :
    uTs P65 [.l x0, .l x1] (fun a _ => bodyK (mkK Tryz.prog A B [] [(4, ML10_4 l10_4_0)] (Hn 10).pt []) Tryz.f10 a kk) = G10_0 A B l10_4_0 x0 x1 (fun x2 => kk (tB x2) []) := by kernel_rfl
theorem o10_0 {β : Type} (N : Nat) : Snd (β := β) Tryz.prog Hn 10 (M10_0 (F10_0 re rk N)) := by
  intro a h kk r ha hr
  unfold M10_0 at ha
  split at ha
  · rename_i hs
    cases ha
    have hk := via_pat hs ((e10_0 re rk (L10_4_0 re rk N N) _ _ kk).trans hr)
    exact fn_ok (f := 10) (fn := Tryz.f10) (H := Hn) (by kernel_rfl) (show SndAll Tryz.prog Hn [] from trivial) (spots := [.lp X10_4]) (by kernel_rfl) ⟨cut_lp (id := 4) i10_4 (ol10_4 N N) (fun s kk => by kernel_rfl), trivial⟩ hk
  · cases ha
def G139_0 {β : Type} (A : Pr) (B : Pk) (x0 x1 : List R) (k0 : Bool → Option β) : Option β :=
    match (A.okb x0) with
    | true => (match (A.okb x1) with
      | true => (k0 (A.cs .eql (A.bs x0) (A.bs x1)))
      | false => none)
    | false => none
def F139_0 {β : Type} (A : Pr) (B : Pk) (N : Nat) (x0 x1 : List R) (k0 : Bool → Option β) : Option β :=
  G139_0 A B  x0 x1 k0
def M139_0 {β : Type} (f139_0 : List R → List R → (Bool → Option β) → Option β) (a : List T) : Option ((T → List (List T) → Option β) → Option β) :=
  match gTs P65 a [] with
  | some [.l x0, .l x1] => some fun kk => f139_0 x0 x1 (fun x2 => kk (tB x2) [])
  | _ => none
theorem e139_0 {β : Type} (A : Pr) (B : Pk) (x0 x1 : List R) (kk : T → List (List T) → Option β) :
    uTs P65 [.l x0, .l x1] (fun a _ => bodyK (mkK Tryz.prog A B [] [] (Hn 139).pt []) Tryz.f139 a kk) = G139_0 A B  x0 x1 (fun x2 => kk (tB x2) []) := by kernel_rfl
theorem o139_0 {β : Type} (N : Nat) : Snd (β := β) Tryz.prog Hn 139 (M139_0 (F139_0 re rk N)) := by
  intro a h kk r ha hr
  unfold M139_0 at ha
  split at ha
  · rename_i hs
    cases ha
    have hk := via_pat hs ((e139_0 re rk  _ _ kk).trans hr)
    exact fn_ok (f := 139) (fn := Tryz.f139) (H := Hn) (by kernel_rfl) (show SndAll Tryz.prog Hn [] from trivial) (spots := []) (by kernel_rfl) trivial hk
  · cases ha
def G95_0 {β : Type} (A : Pr) (B : Pk) (f139_0 : List R → List R → (Bool → Option β) → Option β) (x0 x1 x2 x3 : Int) (x4 x5 : List R) (x6 x7 x8 x9 : Int) (xa xb : List R) (k0 : Bool → Option β) : Option β :=
    match (A.ba (A.cm .eql x0 x6) (A.ba (A.cm .eql x1 x7) (A.ba (A.cm .eql x2 x8) (A.ba (A.cm .eql x3 x9) true)))) with
    | true => (f139_0 x4 xa (fun xc =>
      match xc with
        | true => (f139_0 x5 xb (fun xd =>
          k0 xd))
        | false => (k0 false)))
    | false => (k0 false)
def F95_0 {β : Type} (A : Pr) (B : Pk) (N : Nat) (x0 x1 x2 x3 : Int) (x4 x5 : List R) (x6 x7 x8 x9 : Int) (xa xb : List R) (k0 : Bool → Option β) : Option β :=
  G95_0 A B (F139_0 A B N) x0 x1 x2 x3 x4 x5 x6 x7 x8 x9 xa xb k0
def M95_0 {β : Type} (f95_0 : Int → Int → Int → Int → List R → List R → Int → Int → Int → Int → List R → List R → (Bool → Option β) → Option β) (a : List T) : Option ((T → List (List T) → Option β) → Option β) :=
  match gTs P70 a [] with
  | some [.i x0, .i x1, .i x2, .i x3, .l x4, .l x5, .i x6, .i x7, .i x8, .i x9, .l xa, .l xb] => some fun kk => f95_0 x0 x1 x2 x3 x4 x5 x6 x7 x8 x9 xa xb (fun xc => kk (tB xc) [])
  | _ => none
theorem e95_0 {β : Type} (A : Pr) (B : Pk) (f139_0 : List R → List R → (Bool → Option β) → Option β) (x0 x1 x2 x3 : Int) (x4 x5 : List R) (x6 x7 x8 x9 : Int) (xa xb : List R) (kk : T → List (List T) → Option β) :
    uTs P70 [.i x0, .i x1, .i x2, .i x3, .l x4, .l x5, .i x6, .i x7, .i x8, .i x9, .l xa, .l xb] (fun a _ => bodyK (mkK Tryz.prog A B [(139, M139_0 f139_0)] [] (Hn 95).pt []) Tryz.f95 a kk) = G95_0 A B f139_0 x0 x1 x2 x3 x4 x5 x6 x7 x8 x9 xa xb (fun xc => kk (tB xc) []) := by kernel_rfl
theorem o95_0 {β : Type} (N : Nat) : Snd (β := β) Tryz.prog Hn 95 (M95_0 (F95_0 re rk N)) := by
  intro a h kk r ha hr
  unfold M95_0 at ha
  split at ha
  · rename_i hs
    cases ha
    have hk := via_pat hs ((e95_0 re rk (F139_0 re rk N) _ _ _ _ _ _ _ _ _ _ _ _ kk).trans hr)
    exact fn_ok (f := 95) (fn := Tryz.f95) (H := Hn) (by kernel_rfl) (show SndAll Tryz.prog Hn [(139, M139_0 (F139_0 re rk N))] from ⟨o139_0 N, trivial⟩) (spots := []) (by kernel_rfl) trivial hk
  · cases ha
noncomputable def X52_4 : Code := atF Tryz.f52 [true, true, false, true, false, false]
theorem i52_4 : firstReg X52_4 = 4 := by kernel_rfl
def GL52_4_0 {β : Type} (A : Pr) (B : Pk) (f95_0 : Int → Int → Int → Int → List R → List R → Int → Int → Int → Int → List R → List R → (Bool → Option β) → Option β) (l52_4_0 : (List R → List R → Bool → Option β) → (List R → List R → Option β) → List R → List R → Int → Int → Option β) (k0 : List R → List R → Bool → Option β) (k1 : List R → List R → Option β) (x0 x1 : List R) (x2 x3 : Int) : Option β :=
    match (A.cm .lss x3 x2) with
    | true => (match (A.ix x3 (A.len x0)) with
      | some x4 => (match (B.okE [(Sh.i .i64), (Sh.i .i64), (Sh.i .i64), (Sh.i .i64), (Sh.sl 1 (Sh.i .u8)), (Sh.sl 1 (Sh.i .u8))] true x0 x4) with
        | true => (match (A.ix x3 (A.len x1)) with
          | some x5 => (match (B.okE [(Sh.i .i64), (Sh.i .i64), (Sh.i .i64), (Sh.i .i64), (Sh.sl 1 (Sh.i .u8)), (Sh.sl 1 (Sh.i .u8))] true x1 x5) with
            | true => (f95_0 (B.ci x0 x4 0) (B.ci x0 x4 1) (B.ci x0 x4 2) (B.ci x0 x4 3) (B.cl x0 x4 4) (B.cl x0 x4 5) (B.ci x1 x5 0) (B.ci x1 x5 1) (B.ci x1 x5 2) (B.ci x1 x5 3) (B.cl x1 x5 4) (B.cl x1 x5 5) (fun x6 =>
              match (A.bn x6) with
                | true => (k0 x0 x1 false)
                | false => (l52_4_0 k0 k1 x0 x1 x2 (A.ar .add .i64 x3 1))))
            | false => none)
          | none => none)
        | false => none)
      | none => none)
    | false => (k1 x0 x1)
def L52_4_0 {β : Type} (A : Pr) (B : Pk) (N : Nat) : Nat → (List R → List R → Bool → Option β) → (List R → List R → Option β) → List R → List R → Int → Int → Option β
  | 0, _, _, _, _, _, _ => none
  | n + 1, k0, k1, x0, x1, x2, x3 =>
    GL52_4_0 A B (F95_0 A B N) (L52_4_0 A B N n) k0 k1 x0 x1 x2 x3
def P90 : List PT := [(.r (.ro 6)), (.r (.ro 6)), .us 2, pB, .us 22]
def S90 (x0 x1 : List R) (x2 : Bool) : List T := [(T.r (R.ro 6 x0)), (T.r (R.ro 6 x1)), T.u, T.u, (tB x2), T.u, T.u, T.u, T.u, T.u, T.u, T.u, T.u, T.u, T.u, T.u, T.u, T.u, T.u, T.u, T.u, T.u, T.u, T.u, T.u, T.u, T.u]
def P91 : List PT := [(.r (.ro 6)), (.r (.ro 6)), .us 25]
def S91 (x0 x1 : List R) : List T := [(T.r (R.ro 6 x0)), (T.r (R.ro 6 x1)), T.u, T.u, T.u, T.u, T.u, T.u, T.u, T.u, T.u, T.u, T.u, T.u, T.u, T.u, T.u, T.u, T.u, T.u, T.u, T.u, T.u, T.u, T.u, T.u, T.u]
def P92 : List PT := [(.r (.ro 6)), (.r (.ro 6)), .us 10, pI, pI, .us 13]
noncomputable def ML52_4 {β : Type} (l52_4_0 : (List R → List R → Bool → Option β) → (List R → List R → Option β) → List R → List R → Int → Int → Option β) (s : List T) : Option ((Ex → List T → Option β) → Option β) :=
  match gTs P92 (clean ((Hn 52).lp 4).1 s) [] with
  | some [.l x0, .l x1, .i x2, .i x3] => some fun kk => l52_4_0 (fun x4 x5 x6 => kk Ex.rt (S90 x4 x5 x6)) (fun x7 x8 => kk (Ex.ex 0) (S91 x7 x8)) x0 x1 x2 x3
  | _ => none
theorem e52_4_0 {β : Type} (A : Pr) (B : Pk) (f95_0 : Int → Int → Int → Int → List R → List R → Int → Int → Int → Int → List R → List R → (Bool → Option β) → Option β) (l52_4_0 : (List R → List R → Bool → Option β) → (List R → List R → Option β) → List R → List R → Int → Int → Option β) (x0 x1 : List R) (x2 x3 : Int) (kk : Ex → List T → Option β) :
    uTs P92 [.l x0, .l x1, .i x2, .i x3] (fun s _ => evK (mkK Tryz.prog A B [(95, M95_0 f95_0)] [] (Hn 52).pt []) X52_4 s (fun e s' => match e with
      | .nm => (match ML52_4 l52_4_0 s' with | some h => h kk | none => none)
      | .ex m => kk (.ex m) (clean ((Hn 52).lp (firstReg X52_4)).2 s')
      | .rt => kk .rt (clean ((Hn 52).lp (firstReg X52_4)).2 s'))) = GL52_4_0 A B f95_0 l52_4_0 (fun x4 x5 x6 => kk Ex.rt (S90 x4 x5 x6)) (fun x7 x8 => kk (Ex.ex 0) (S91 x7 x8)) x0 x1 x2 x3 := by kernel_rfl
theorem ol52_4 {β : Type} (N : Nat) : ∀ n, SndL (β := β) Tryz.prog Hn (Hn 52) X52_4 (ML52_4 (L52_4_0 re rk N n))
  | 0 => by
    intro s h kk r ha hr
    unfold ML52_4 at ha
    split at ha
    · cases ha; cases hr
    · cases ha
  | n + 1 => by
    have ih := ol52_4 (β := β) N n
    intro s h kk r ha hr
    unfold ML52_4 at ha
    split at ha
    · rename_i hs
      cases ha
      have hk := via_pat hs ((e52_4_0 re rk (F95_0 re rk N) (L52_4_0 re rk N n) _ _ _ _ kk).trans hr)
      exact round_ok (show SndAll Tryz.prog Hn [(95, M95_0 (F95_0 re rk N))] from ⟨o95_0 N, trivial⟩) (spots := []) (by kernel_rfl) trivial ih (hd := clean ((Hn 52).lp 4).1 s) (by rw [i52_4]) hk
    · cases ha
def G52_0 {β : Type} (A : Pr) (B : Pk) (l52_4_0 : (List R → List R → Bool → Option β) → (List R → List R → Option β) → List R → List R → Int → Int → Option β) (x0 x1 : List R) (k0 : Bool → Option β) : Option β :=
    match (A.cm .neq (A.on (A.len x0)) (A.on (A.len x1))) with
    | true => (k0 false)
    | false => (l52_4_0 (fun x2 x3 x4 =>
      k0 x4) (fun x5 x6 =>
      k0 true) x0 x1 (A.on (A.len x0)) 0)
def F52_0 {β : Type} (A : Pr) (B : Pk) (N : Nat) (x0 x1 : List R) (k0 : Bool → Option β) : Option β :=
  G52_0 A B (L52_4_0 A B N N) x0 x1 k0
def P93 : List PT := [(.r (.ro 6)), (.r (.ro 6))]
def M52_0 {β : Type} (f52_0 : List R → List R → (Bool → Option β) → Option β) (a : List T) : Option ((T → List (List T) → Option β) → Option β) :=
  match gTs P93 a [] with
  | some [.l x0, .l x1] => some fun kk => f52_0 x0 x1 (fun x2 => kk (tB x2) [])
  | _ => none
theorem e52_0 {β : Type} (A : Pr) (B : Pk) (l52_4_0 : (List R → List R → Bool → Option β) → (List R → List R → Option β) → List R → List R → Int → Int → Option β) (x0 x1 : List R) (kk : T → List (List T) → Option β) :
    uTs P93 [.l x0, .l x1] (fun a _ => bodyK (mkK Tryz.prog A B [] [(4, ML52_4 l52_4_0)] (Hn 52).pt []) Tryz.f52 a kk) = G52_0 A B l52_4_0 x0 x1 (fun x2 => kk (tB x2) []) := by kernel_rfl
theorem o52_0 {β : Type} (N : Nat) : Snd (β := β) Tryz.prog Hn 52 (M52_0 (F52_0 re rk N)) := by
  intro a h kk r ha hr
  unfold M52_0 at ha
  split at ha
  · rename_i hs
    cases ha
    have hk := via_pat hs ((e52_0 re rk (L52_4_0 re rk N N) _ _ kk).trans hr)
    exact fn_ok (f := 52) (fn := Tryz.f52) (H := Hn) (by kernel_rfl) (show SndAll Tryz.prog Hn [] from trivial) (spots := [.lp X52_4]) (by kernel_rfl) ⟨cut_lp (id := 4) i52_4 (ol52_4 N N) (fun s kk => by kernel_rfl), trivial⟩ hk
  · cases ha
def G29_0 {β : Type} (A : Pr) (B : Pk) (f52_0 : List R → List R → (Bool → Option β) → Option β) (x0 x1 : List R) (k0 : Bool → Option β) : Option β :=
    f52_0 x0 x1 (fun x2 =>
    k0 x2)
def F29_0 {β : Type} (A : Pr) (B : Pk) (N : Nat) (x0 x1 : List R) (k0 : Bool → Option β) : Option β :=
  G29_0 A B (F52_0 A B N) x0 x1 k0
def M29_0 {β : Type} (f29_0 : List R → List R → (Bool → Option β) → Option β) (a : List T) : Option ((T → List (List T) → Option β) → Option β) :=
  match gTs P93 a [] with
  | some [.l x0, .l x1] => some fun kk => f29_0 x0 x1 (fun x2 => kk (tB x2) [])
  | _ => none
theorem e29_0 {β : Type} (A : Pr) (B : Pk) (f52_0 : List R → List R → (Bool → Option β) → Option β) (x0 x1 : List R) (kk : T → List (List T) → Option β) :
    uTs P93 [.l x0, .l x1] (fun a _ => bodyK (mkK Tryz.prog A B [(52, M52_0 f52_0)] [] (Hn 29).pt []) Tryz.f29 a kk) = G29_0 A B f52_0 x0 x1 (fun x2 => kk (tB x2) []) := by kernel_rfl
theorem o29_0 {β : Type} (N : Nat) : Snd (β := β) Tryz.prog Hn 29 (M29_0 (F29_0 re rk N)) := by
  intro a h kk r ha hr
  unfold M29_0 at ha
  split at ha
  · rename_i hs
    cases ha
    have hk := via_pat hs ((e29_0 re rk (F52_0 re rk N) _ _ kk).trans hr)
    exact fn_ok (f := 29) (fn := Tryz.f29) (H := Hn) (by kernel_rfl) (show SndAll Tryz.prog Hn [(52, M52_0 (F52_0 re rk N))] from ⟨o52_0 N, trivial⟩) (spots := []) (by kernel_rfl) trivial hk
  · cases ha
noncomputable def X13_5 : Code := atF Tryz.f13 [true, true, true, false, true, false, false]
theorem i13_5 : firstReg X13_5 = 5 := by kernel_rfl
def GL13_5_0 {β : Type} (A : Pr) (B : Pk) (f29_0 : List R → List R → (Bool → Option β) → Option β) (l13_5_0 : (Bool → Option β) → (Option β) → Q18 β) (k0 : Bool → Option β) (k1 : Option β) (x0 x1 x2 x3 x4 x5 : Int) (x6 : List R) (x7 x8 x9 xa xb : Int) (xc : List R) (xd xe : Int) (xf xg xh xi xj xk xl xm : Bool) (xn : List R) (xo xp : Int) (xq xr : List R) (xs xt xu xv xw xx : Int) (xy : List R) (xz x10 x11 x12 x13 : Int) (x14 : List R) (x15 x16 : Int) (x17 x18 x19 x1a x1b x1c x1d x1e : Bool) (x1f : List R) (x1g x1h : Int) (x1i x1j : List R) (x1k x1l : Int) : Option β :=
    match (A.cm .lss x1l x1k) with
    | true => (match (A.ix x1l (A.len xr)) with
      | some x1m => (match (B.okE [(Sh.sl 6 (Sh.ag [(Sh.i .i64), (Sh.i .i64), (Sh.i .i64), (Sh.i .i64), (Sh.sl 1 (Sh.i .u8)), (Sh.sl 1 (Sh.i .u8))]))] false xr x1m) with
        | true => (match (A.ix x1l (A.len x1j)) with
          | some x1n => (match (B.okE [(Sh.sl 6 (Sh.ag [(Sh.i .i64), (Sh.i .i64), (Sh.i .i64), (Sh.i .i64), (Sh.sl 1 (Sh.i .u8)), (Sh.sl 1 (Sh.i .u8))]))] false x1j x1n) with
            | true => (f29_0 (B.cl xr x1m 0) (B.cl x1j x1n 0) (fun x1o =>
              match (A.bn x1o) with
                | true => (k0 false)
                | false => (l13_5_0 k0 k1 x0 x1 x2 x3 x4 x5 x6 x7 x8 x9 xa xb xc xd xe xf xg xh xi xj xk xl xm xn xo xp xq xr xs xt xu xv xw xx xy xz x10 x11 x12 x13 x14 x15 x16 x17 x18 x19 x1a x1b x1c x1d x1e x1f x1g x1h x1i x1j x1k (A.ar .add .i64 x1l 1))))
            | false => none)
          | none => none)
        | false => none)
      | none => none)
    | false => k1
def L13_5_0 {β : Type} (A : Pr) (B : Pk) (N : Nat) : Nat → (Bool → Option β) → (Option β) → Q18 β
  | 0, _, _, _, _, _, _, _, _, _, _, _, _, _, _, _, _, _, _, _, _, _, _, _, _, _, _, _, _, _, _, _, _, _, _, _, _, _, _, _, _, _, _, _, _, _, _, _, _, _, _, _, _, _, _, _, _, _, _, _, _ => none
  | n + 1, k0, k1, x0, x1, x2, x3, x4, x5, x6, x7, x8, x9, xa, xb, xc, xd, xe, xf, xg, xh, xi, xj, xk, xl, xm, xn, xo, xp, xq, xr, xs, xt, xu, xv, xw, xx, xy, xz, x10, x11, x12, x13, x14, x15, x16, x17, x18, x19, x1a, x1b, x1c, x1d, x1e, x1f, x1g, x1h, x1i, x1j, x1k, x1l =>
    GL13_5_0 A B (F29_0 A B N) (L13_5_0 A B N n) k0 k1 x0 x1 x2 x3 x4 x5 x6 x7 x8 x9 xa xb xc xd xe xf xg xh xi xj xk xl xm xn xo xp xq xr xs xt xu xv xw xx xy xz x10 x11 x12 x13 x14 x15 x16 x17 x18 x19 x1a x1b x1c x1d x1e x1f x1g x1h x1i x1j x1k x1l
noncomputable def ML13_5 {β : Type} (l13_5_0 : (Bool → Option β) → (Option β) → Q18 β) (s : List T) : Option ((Ex → List T → Option β) → Option β) :=
  match gTs P77 (clean ((Hn 13).lp 5).1 s) [] with
  | some (.i x0 :: .i x1 :: .i x2 :: .i x3 :: .i x4 :: .i x5 :: .l x6 :: .i x7 :: .i x8 :: .i x9 :: .i xa :: .i xb :: .l xc :: .i xd :: .i xe :: .b xf :: .b xg :: .b xh :: .b xi :: .b xj :: .b xk :: .b xl :: .b xm :: .l xn :: .i xo :: .i xp :: .l xq :: .l xr :: .i xs :: .i xt :: .i xu :: .i xv :: .i xw :: .i xx :: .l xy :: .i xz :: .i x10 :: .i x11 :: .i x12 :: .i x13 :: .l x14 :: .i x15 :: .i x16 :: .b x17 :: .b x18 :: .b x19 :: .b x1a :: .b x1b :: .b x1c :: .b x1d :: .b x1e :: .l x1f :: .i x1g :: .i x1h :: .l x1i :: .l x1j :: .i x1k :: .i x1l :: []) => some fun kk => l13_5_0 (fun x1m => kk Ex.rt (S75 x1m)) (kk (Ex.ex 0) (S76)) x0 x1 x2 x3 x4 x5 x6 x7 x8 x9 xa xb xc xd xe xf xg xh xi xj xk xl xm xn xo xp xq xr xs xt xu xv xw xx xy xz x10 x11 x12 x13 x14 x15 x16 x17 x18 x19 x1a x1b x1c x1d x1e x1f x1g x1h x1i x1j x1k x1l
  | _ => none
theorem e13_5_0 {β : Type} (A : Pr) (B : Pk) (f29_0 : List R → List R → (Bool → Option β) → Option β) (l13_5_0 : (Bool → Option β) → (Option β) → Q18 β) (x0 x1 x2 x3 x4 x5 : Int) (x6 : List R) (x7 x8 x9 xa xb : Int) (xc : List R) (xd xe : Int) (xf xg xh xi xj xk xl xm : Bool) (xn : List R) (xo xp : Int) (xq xr : List R) (xs xt xu xv xw xx : Int) (xy : List R) (xz x10 x11 x12 x13 : Int) (x14 : List R) (x15 x16 : Int) (x17 x18 x19 x1a x1b x1c x1d x1e : Bool) (x1f : List R) (x1g x1h : Int) (x1i x1j : List R) (x1k x1l : Int) (kk : Ex → List T → Option β) :
    uTs P77 (.i x0 :: .i x1 :: .i x2 :: .i x3 :: .i x4 :: .i x5 :: .l x6 :: .i x7 :: .i x8 :: .i x9 :: .i xa :: .i xb :: .l xc :: .i xd :: .i xe :: .b xf :: .b xg :: .b xh :: .b xi :: .b xj :: .b xk :: .b xl :: .b xm :: .l xn :: .i xo :: .i xp :: .l xq :: .l xr :: .i xs :: .i xt :: .i xu :: .i xv :: .i xw :: .i xx :: .l xy :: .i xz :: .i x10 :: .i x11 :: .i x12 :: .i x13 :: .l x14 :: .i x15 :: .i x16 :: .b x17 :: .b x18 :: .b x19 :: .b x1a :: .b x1b :: .b x1c :: .b x1d :: .b x1e :: .l x1f :: .i x1g :: .i x1h :: .l x1i :: .l x1j :: .i x1k :: .i x1l :: []) (fun s _ => evK (mkK Tryz.prog A B [(29, M29_0 f29_0)] [] (Hn 13).pt []) X13_5 s (fun e s' => match e with
      | .nm => (match ML13_5 l13_5_0 s' with | some h => h kk | none => none)
      | .ex m => kk (.ex m) (clean ((Hn 13).lp (firstReg X13_5)).2 s')
      | .rt => kk .rt (clean ((Hn 13).lp (firstReg X13_5)).2 s'))) = GL13_5_0 A B f29_0 l13_5_0 (fun x1m => kk Ex.rt (S75 x1m)) (kk (Ex.ex 0) (S76)) x0 x1 x2 x3 x4 x5 x6 x7 x8 x9 xa xb xc xd xe xf xg xh xi xj xk xl xm xn xo xp xq xr xs xt xu xv xw xx xy xz x10 x11 x12 x13 x14 x15 x16 x17 x18 x19 x1a x1b x1c x1d x1e x1f x1g x1h x1i x1j x1k x1l := by kernel_rfl
theorem ol13_5 {β : Type} (N : Nat) : ∀ n, SndL (β := β) Tryz.prog Hn (Hn 13) X13_5 (ML13_5 (L13_5_0 re rk N n))
  | 0 => by
    intro s h kk r ha hr
    unfold ML13_5 at ha
    split at ha
    · cases ha; cases hr
    · cases ha
  | n + 1 => by
    have ih := ol13_5 (β := β) N n
    intro s h kk r ha hr
    unfold ML13_5 at ha
    split at ha
    · rename_i hs
      cases ha
      have hk := via_pat hs ((e13_5_0 re rk (F29_0 re rk N) (L13_5_0 re rk N n) _ _ _ _ _ _ _ _ _ _ _ _ _ _ _ _ _ _ _ _ _ _ _ _ _ _ _ _ _ _ _ _ _ _ _ _ _ _ _ _ _ _ _ _ _ _ _ _ _ _ _ _ _ _ _ _ _ _ kk).trans hr)
      exact round_ok (show SndAll Tryz.prog Hn [(29, M29_0 (F29_0 re rk N))] from ⟨o29_0 N, trivial⟩) (spots := []) (by kernel_rfl) trivial ih (hd := clean ((Hn 13).lp 5).1 s) (by rw [i13_5]) hk
    · cases ha
def G13_0 {β : Type} (A : Pr) (B : Pk) (f9_0 : Int → Int → Int → Int → Int → Int → List R → Int → Int → Int → Int → Int → Int → List R → Int → Int → Int → Int → Int → List R → Int → Int → Bool → Bool → Bool → Bool → Bool → Bool → Bool → Bool → List R → Int → Int → Int → Int → Int → Int → Int → List R → Int → Int → Bool → Bool → Bool → Bool → Bool → Bool → Bool → Bool → List R → Int → Int → (Bool → Bool → Option β) → Option β) (f10_0 : List R → List R → (Bool → Option β) → Option β) (l13_5_0 : (Bool → Option β) → (Option β) → Q18 β) (x0 x1 x2 x3 x4 x5 : Int) (x6 : List R) (x7 x8 x9 xa xb : Int) (xc : List R) (xd xe : Int) (xf xg xh xi xj xk xl xm : Bool) (xn : List R) (xo xp : Int) (xq xr : List R) (xs xt xu xv xw xx : Int) (xy : List R) (xz x10 x11 x12 x13 : Int) (x14 : List R) (x15 x16 : Int) (x17 x18 x19 x1a x1b x1c x1d x1e : Bool) (x1f : List R) (x1g x1h : Int) (x1i x1j : List R) (k0 : Bool → Option β) : Option β :=
    f9_0 x0 x1 x2 x3 x4 x5 x6 xs xt xu xv xw xx xy x7 x8 x9 xa xb xc xd xe xf xg xh xi xj xk xl xm xn xo xp xz x10 x11 x12 x13 x14 x15 x16 x17 x18 x19 x1a x1b x1c x1d x1e x1f x1g x1h (fun x1k x1l =>
    match (A.bn x1k) with
      | true => (k0 false)
      | false => (match (A.bn x1l) with
        | true => (k0 false)
        | false => (f10_0 xq x1i (fun x1m =>
          match (A.bn x1m) with
            | true => (k0 false)
            | false => (match (A.cm .neq (A.on (A.len xr)) (A.on (A.len x1j))) with
              | true => (k0 false)
              | false => (l13_5_0 (fun x1n =>
                k0 x1n) (k0 true) x0 x1 x2 x3 x4 x5 x6 x7 x8 x9 xa xb xc xd xe xf xg xh xi xj xk xl xm xn xo xp xq xr xs xt xu xv xw xx xy xz x10 x11 x12 x13 x14 x15 x16 x17 x18 x19 x1a x1b x1c x1d x1e x1f x1g x1h x1i x1j (A.on (A.len xr)) 0))))))
def F13_0 {β : Type} (A : Pr) (B : Pk) (N : Nat) (x0 x1 x2 x3 x4 x5 : Int) (x6 : List R) (x7 x8 x9 xa xb : Int) (xc : List R) (xd xe : Int) (xf xg xh xi xj xk xl xm : Bool) (xn : List R) (xo xp : Int) (xq xr : List R) (xs xt xu xv xw xx : Int) (xy : List R) (xz x10 x11 x12 x13 : Int) (x14 : List R) (x15 x16 : Int) (x17 x18 x19 x1a x1b x1c x1d x1e : Bool) (x1f : List R) (x1g x1h : Int) (x1i x1j : List R) (k0 : Bool → Option β) : Option β :=
  G13_0 A B (F9_0 A B N) (F10_0 A B N) (L13_5_0 A B N N) x0 x1 x2 x3 x4 x5 x6 x7 x8 x9 xa xb xc xd xe xf xg xh xi xj xk xl xm xn xo xp xq xr xs xt xu xv xw xx xy xz x10 x11 x12 x13 x14 x15 x16 x17 x18 x19 x1a x1b x1c x1d x1e x1f x1g x1h x1i x1j k0
def M13_0 {β : Type} (f13_0 : Int → Int → Int → Int → Int → Int → List R → Int → Int → Int → Int → Int → List R → Int → Int → Bool → Bool → Bool → Bool → Bool → Bool → Bool → Bool → List R → Int → Int → List R → List R → Int → Int → Int → Int → Int → Int → List R → Int → Int → Int → Int → Int → List R → Int → Int → Bool → Bool → Bool → Bool → Bool → Bool → Bool → Bool → List R → Int → Int → List R → List R → (Bool → Option β) → Option β) (a : List T) : Option ((T → List (List T) → Option β) → Option β) :=
  match gTs P78 a [] with
  | some (.i x0 :: .i x1 :: .i x2 :: .i x3 :: .i x4 :: .i x5 :: .l x6 :: .i x7 :: .i x8 :: .i x9 :: .i xa :: .i xb :: .l xc :: .i xd :: .i xe :: .b xf :: .b xg :: .b xh :: .b xi :: .b xj :: .b xk :: .b xl :: .b xm :: .l xn :: .i xo :: .i xp :: .l xq :: .l xr :: .i xs :: .i xt :: .i xu :: .i xv :: .i xw :: .i xx :: .l xy :: .i xz :: .i x10 :: .i x11 :: .i x12 :: .i x13 :: .l x14 :: .i x15 :: .i x16 :: .b x17 :: .b x18 :: .b x19 :: .b x1a :: .b x1b :: .b x1c :: .b x1d :: .b x1e :: .l x1f :: .i x1g :: .i x1h :: .l x1i :: .l x1j :: []) => some fun kk => f13_0 x0 x1 x2 x3 x4 x5 x6 x7 x8 x9 xa xb xc xd xe xf xg xh xi xj xk xl xm xn xo xp xq xr xs xt xu xv xw xx xy xz x10 x11 x12 x13 x14 x15 x16 x17 x18 x19 x1a x1b x1c x1d x1e x1f x1g x1h x1i x1j (fun x1k => kk (tB x1k) [])
  | _ => none
theorem e13_0 {β : Type} (A : Pr) (B : Pk) (f9_0 : Int → Int → Int → Int → Int → Int → List R → Int → Int → Int → Int → Int → Int → List R → Int → Int → Int → Int → Int → List R → Int → Int → Bool → Bool → Bool → Bool → Bool → Bool → Bool → Bool → List R → Int → Int → Int → Int → Int → Int → Int → List R → Int → Int → Bool → Bool → Bool → Bool → Bool → Bool → Bool → Bool → List R → Int → Int → (Bool → Bool → Option β) → Option β) (f10_0 : List R → List R → (Bool → Option β) → Option β) (l13_5_0 : (Bool → Option β) → (Option β) → Q18 β) (x0 x1 x2 x3 x4 x5 : Int) (x6 : List R) (x7 x8 x9 xa xb : Int) (xc : List R) (xd xe : Int) (xf xg xh xi xj xk xl xm : Bool) (xn : List R) (xo xp : Int) (xq xr : List R) (xs xt xu xv xw xx : Int) (xy : List R) (xz x10 x11 x12 x13 : Int) (x14 : List R) (x15 x16 : Int) (x17 x18 x19 x1a x1b x1c x1d x1e : Bool) (x1f : List R) (x1g x1h : Int) (x1i x1j : List R) (kk : T → List (List T) → Option β) :
    uTs P78 (.i x0 :: .i x1 :: .i x2 :: .i x3 :: .i x4 :: .i x5 :: .l x6 :: .i x7 :: .i x8 :: .i x9 :: .i xa :: .i xb :: .l xc :: .i xd :: .i xe :: .b xf :: .b xg :: .b xh :: .b xi :: .b xj :: .b xk :: .b xl :: .b xm :: .l xn :: .i xo :: .i xp :: .l xq :: .l xr :: .i xs :: .i xt :: .i xu :: .i xv :: .i xw :: .i xx :: .l xy :: .i xz :: .i x10 :: .i x11 :: .i x12 :: .i x13 :: .l x14 :: .i x15 :: .i x16 :: .b x17 :: .b x18 :: .b x19 :: .b x1a :: .b x1b :: .b x1c :: .b x1d :: .b x1e :: .l x1f :: .i x1g :: .i x1h :: .l x1i :: .l x1j :: []) (fun a _ => bodyK (mkK Tryz.prog A B [(9, M9_0 f9_0), (10, M10_0 f10_0)] [(5, ML13_5 l13_5_0)] (Hn 13).pt []) Tryz.f13 a kk) = G13_0 A B f9_0 f10_0 l13_5_0 x0 x1 x2 x3 x4 x5 x6 x7 x8 x9 xa xb xc xd xe xf xg xh xi xj xk xl xm xn xo xp xq xr xs xt xu xv xw xx xy xz x10 x11 x12 x13 x14 x15 x16 x17 x18 x19 x1a x1b x1c x1d x1e x1f x1g x1h x1i x1j (fun x1k => kk (tB x1k) []) := by kernel_rfl
theorem o13_0 {β : Type} (N : Nat) : Snd (β := β) Tryz.prog Hn 13 (M13_0 (F13_0 re rk N)) := by
  intro a h kk r ha hr
  unfold M13_0 at ha
  split at ha
  · rename_i hs
    cases ha
    have hk := via_pat hs ((e13_0 re rk (F9_0 re rk N) (F10_0 re rk N) (L13_5_0 re rk N N) _ _ _ _ _ _ _ _ _ _ _ _ _ _ _ _ _ _ _ _ _ _ _ _ _ _ _ _ _ _ _ _ _ _ _ _ _ _ _ _ _ _ _ _ _ _ _ _ _ _ _ _ _ _ _ _ kk).trans hr)
    exact fn_ok (f := 13) (fn := Tryz.f13) (H := Hn) (by kernel_rfl) (show SndAll Tryz.prog Hn [(9, M9_0 (F9_0 re rk N)), (10, M10_0 (F10_0 re rk N))] from ⟨o9_0 N, o10_0 N, trivial⟩) (spots := [.lp X13_5]) (by kernel_rfl) ⟨cut_lp (id := 5) i13_5 (ol13_5 N N) (fun s kk => by kernel_rfl), trivial⟩ hk
  · cases ha
def G4_0 {β : Type} (A : Pr) (B : Pk) (f11_0 : Int → Int → Int → Int → Int → Int → List R → Int → Int → Int → Int → Int → List R → Int → Int → Bool → Bool → Bool → Bool → Bool → Bool → Bool → Bool → List R → Int → Int → List R → List R → (Bool → Option β) → Option β) (f12_0 : Int → Int → Int → Int → Int → Int → List R → Int → Int → Int → Int → Int → List R → Int → Int → Bool → Bool → Bool → Bool → Bool → Bool → Bool → Bool → List R → Int → Int → List R → List R → Int → Int → Int → Int → Int → Int → List R → Int → Int → Int → Int → Int → List R → Int → Int → Bool → Bool → Bool → Bool → Bool → Bool → Bool → Bool → List R → Int → Int → List R → List R → (Bool → Option β) → Option β) (f13_0 : Int → Int → Int → Int → Int → Int → List R → Int → Int → Int → Int → Int → List R → Int → Int → Bool → Bool → Bool → Bool → Bool → Bool → Bool → Bool → List R → Int → Int → List R → List R → Int → Int → Int → Int → Int → Int → List R → Int → Int → Int → Int → Int → List R → Int → Int → Bool → Bool → Bool → Bool → Bool → Bool → Bool → Bool → List R → Int → Int → List R → List R → (Bool → Option β) → Option β) (x0 x1 x2 x3 x4 x5 : Int) (x6 : List R) (x7 x8 x9 xa xb : Int) (xc : List R) (xd xe : Int) (xf xg xh xi xj xk xl xm : Bool) (xn : List R) (xo xp : Int) (xq xr : List R) (xs xt xu xv xw xx : Int) (xy : List R) (xz x10 x11 x12 x13 : Int) (x14 : List R) (x15 x16 : Int) (x17 x18 x19 x1a x1b x1c x1d x1e : Bool) (x1f : List R) (x1g x1h : Int) (x1i x1j : List R) (k0 : Bool → Option β) : Option β :=
    f11_0 x0 x1 x2 x3 x4 x5 x6 x7 x8 x9 xa xb xc xd xe xf xg xh xi xj xk xl xm xn xo xp xq xr (fun x1k =>
    match (A.bn x1k) with
      | true => (k0 true)
      | false => (f11_0 xs xt xu xv xw xx xy xz x10 x11 x12 x13 x14 x15 x16 x17 x18 x19 x1a x1b x1c x1d x1e x1f x1g x1h x1i x1j (fun x1l =>
        match (A.bn x1l) with
          | true => (k0 true)
          | false => (f12_0 x0 x1 x2 x3 x4 x5 x6 x7 x8 x9 xa xb xc xd xe xf xg xh xi xj xk xl xm xn xo xp xq xr xs xt xu xv xw xx xy xz x10 x11 x12 x13 x14 x15 x16 x17 x18 x19 x1a x1b x1c x1d x1e x1f x1g x1h x1i x1j (fun x1m =>
            f13_0 x0 x1 x2 x3 x4 x5 x6 x7 x8 x9 xa xb xc xd xe xf xg xh xi xj xk xl xm xn xo xp xq xr xs xt xu xv xw xx xy xz x10 x11 x12 x13 x14 x15 x16 x17 x18 x19 x1a x1b x1c x1d x1e x1f x1g x1h x1i x1j (fun x1n =>
              match (A.be x1m x1n) with
                | true => (f12_0 x0 x1 x2 x3 x4 x5 x6 x7 x8 x9 xa xb xc xd xe xf xg xh xi xj xk xl xm xn xo xp xq xr x0 x1 x2 x3 x4 x5 x6 x7 x8 x9 xa xb xc xd xe xf xg xh xi xj xk xl xm xn xo xp xq xr (fun x1o =>
                  match x1o with
                    | true => (k0 true)
                    | false => (k0 false)))
                | false => (k0 false)))))))
def F4_0 {β : Type} (A : Pr) (B : Pk) (N : Nat) (x0 x1 x2 x3 x4 x5 : Int) (x6 : List R) (x7 x8 x9 xa xb : Int) (xc : List R) (xd xe : Int) (xf xg xh xi xj xk xl xm : Bool) (xn : List R) (xo xp : Int) (xq xr : List R) (xs xt xu xv xw xx : Int) (xy : List R) (xz x10 x11 x12 x13 : Int) (x14 : List R) (x15 x16 : Int) (x17 x18 x19 x1a x1b x1c x1d x1e : Bool) (x1f : List R) (x1g x1h : Int) (x1i x1j : List R) (k0 : Bool → Option β) : Option β :=
  G4_0 A B (F11_0 A B N) (F12_0 A B N) (F13_0 A B N) x0 x1 x2 x3 x4 x5 x6 x7 x8 x9 xa xb xc xd xe xf xg xh xi xj xk xl xm xn xo xp xq xr xs xt xu xv xw xx xy xz x10 x11 x12 x13 x14 x15 x16 x17 x18 x19 x1a x1b x1c x1d x1e x1f x1g x1h x1i x1j k0
def M4_0 {β : Type} (f4_0 : Int → Int → Int → Int → Int → Int → List R → Int → Int → Int → Int → Int → List R → Int → Int → Bool → Bool → Bool → Bool → Bool → Bool → Bool → Bool → List R → Int → Int → List R → List R → Int → Int → Int → Int → Int → Int → List R → Int → Int → Int → Int → Int → List R → Int → Int → Bool → Bool → Bool → Bool → Bool → Bool → Bool → Bool → List R → Int → Int → List R → List R → (Bool → Option β) → Option β) (a : List T) : Option ((T → List (List T) → Option β) → Option β) :=
  match gTs P78 a [] with
  | some (.i x0 :: .i x1 :: .i x2 :: .i x3 :: .i x4 :: .i x5 :: .l x6 :: .i x7 :: .i x8 :: .i x9 :: .i xa :: .i xb :: .l xc :: .i xd :: .i xe :: .b xf :: .b xg :: .b xh :: .b xi :: .b xj :: .b xk :: .b xl :: .b xm :: .l xn :: .i xo :: .i xp :: .l xq :: .l xr :: .i xs :: .i xt :: .i xu :: .i xv :: .i xw :: .i xx :: .l xy :: .i xz :: .i x10 :: .i x11 :: .i x12 :: .i x13 :: .l x14 :: .i x15 :: .i x16 :: .b x17 :: .b x18 :: .b x19 :: .b x1a :: .b x1b :: .b x1c :: .b x1d :: .b x1e :: .l x1f :: .i x1g :: .i x1h :: .l x1i :: .l x1j :: []) => some fun kk => f4_0 x0 x1 x2 x3 x4 x5 x6 x7 x8 x9 xa xb xc xd xe xf xg xh xi xj xk xl xm xn xo xp xq xr xs xt xu xv xw xx xy xz x10 x11 x12 x13 x14 x15 x16 x17 x18 x19 x1a x1b x1c x1d x1e x1f x1g x1h x1i x1j (fun x1k => kk (tB x1k) [])
  | _ => none
theorem e4_0 {β : Type} (A : Pr) (B : Pk) (f11_0 : Int → Int → Int → Int → Int → Int → List R → Int → Int → Int → Int → Int → List R → Int → Int → Bool → Bool → Bool → Bool → Bool → Bool → Bool → Bool → List R → Int → Int → List R → List R → (Bool → Option β) → Option β) (f12_0 : Int → Int → Int → Int → Int → Int → List R → Int → Int → Int → Int → Int → List R → Int → Int → Bool → Bool → Bool → Bool → Bool → Bool → Bool → Bool → List R → Int → Int → List R → List R → Int → Int → Int → Int → Int → Int → List R → Int → Int → Int → Int → Int → List R → Int → Int → Bool → Bool → Bool → Bool → Bool → Bool → Bool → Bool → List R → Int → Int → List R → List R → (Bool → Option β) → Option β) (f13_0 : Int → Int → Int → Int → Int → Int → List R → Int → Int → Int → Int → Int → List R → Int → Int → Bool → Bool → Bool → Bool → Bool → Bool → Bool → Bool → List R → Int → Int → List R → List R → Int → Int → Int → Int → Int → Int → List R → Int → Int → Int → Int → Int → List R → Int → Int → Bool → Bool → Bool → Bool → Bool → Bool → Bool → Bool → List R → Int → Int → List R → List R → (Bool → Option β) → Option β) (x0 x1 x2 x3 x4 x5 : Int) (x6 : List R) (x7 x8 x9 xa xb : Int) (xc : List R) (xd xe : Int) (xf xg xh xi xj xk xl xm : Bool) (xn : List R) (xo xp : Int) (xq xr : List R) (xs xt xu xv xw xx : Int) (xy : List R) (xz x10 x11 x12 x13 : Int) (x14 : List R) (x15 x16 : Int) (x17 x18 x19 x1a x1b x1c x1d x1e : Bool) (x1f : List R) (x1g x1h : Int) (x1i x1j : List R) (kk : T → List (List T) → Option β) :
    uTs P78 (.i x0 :: .i x1 :: .i x2 :: .i x3 :: .i x4 :: .i x5 :: .l x6 :: .i x7 :: .i x8 :: .i x9 :: .i xa :: .i xb :: .l xc :: .i xd :: .i xe :: .b xf :: .b xg :: .b xh :: .b xi :: .b xj :: .b xk :: .b xl :: .b xm :: .l xn :: .i xo :: .i xp :: .l xq :: .l xr :: .i xs :: .i xt :: .i xu :: .i xv :: .i xw :: .i xx :: .l xy :: .i xz :: .i x10 :: .i x11 :: .i x12 :: .i x13 :: .l x14 :: .i x15 :: .i x16 :: .b x17 :: .b x18 :: .b x19 :: .b x1a :: .b x1b :: .b x1c :: .b x1d :: .b x1e :: .l x1f :: .i x1g :: .i x1h :: .l x1i :: .l x1j :: []) (fun a _ => bodyK (mkK Tryz.prog A B [(11, M11_0 f11_0), (6, M6_0), (12, M12_0 f12_0), (13, M13_0 f13_0)] [] (Hn 4).pt []) Tryz.f4 a kk) = G4_0 A B f11_0 f12_0 f13_0 x0 x1 x2 x3 x4 x5 x6 x7 x8 x9 xa xb xc xd xe xf xg xh xi xj xk xl xm xn xo xp xq xr xs xt xu xv xw xx xy xz x10 x11 x12 x13 x14 x15 x16 x17 x18 x19 x1a x1b x1c x1d x1e x1f x1g x1h x1i x1j (fun x1k => kk (tB x1k) []) := by kernel_rfl
theorem o4_0 {β : Type} (N : Nat) : Snd (β := β) Tryz.prog Hn 4 (M4_0 (F4_0 re rk N)) := by
  intro a h kk r ha hr
  unfold M4_0 at ha
  split at ha
  · rename_i hs
    cases ha
    have hk := via_pat hs ((e4_0 re rk (F11_0 re rk N) (F12_0 re rk N) (F13_0 re rk N) _ _ _ _ _ _ _ _ _ _ _ _ _ _ _ _ _ _ _ _ _ _ _ _ _ _ _ _ _ _ _ _ _ _ _ _ _ _ _ _ _ _ _ _ _ _ _ _ _ _ _ _ _ _ _ _ kk).trans hr)
    exact fn_ok (f := 4) (fn := Tryz.f4) (H := Hn) (by kernel_rfl) (show SndAll Tryz.prog Hn [(11, M11_0 (F11_0 re rk N)), (6, M6_0), (12, M12_0 (F12_0 re rk N)), (13, M13_0 (F13_0 re rk N))] from ⟨o11_0 N, o6_0 N, o12_0 N, o13_0 N, trivial⟩) (spots := []) (by kernel_rfl) trivial hk
  · cases ha
end
