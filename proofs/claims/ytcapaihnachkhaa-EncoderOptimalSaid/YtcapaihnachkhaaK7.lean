/-
  The functions' trees, printed by a program of ours.
-/
import Derived.Test.YtcapaihnachkhaaH5
set_option linter.unusedVariables false
set_option maxRecDepth 100000
namespace Go.Proofs.Ytcapaihnachkhaa
open Go.Os
section
abbrev pI : PT := .r (.i .i64)
abbrev pB : PT := .r .b
abbrev tI (x : Int) : T := .r (.i .i64 x)
abbrev tB (x : Bool) : T := .r (.b x)
abbrev Q0 (β : Type) := List R → Int → List R → List R → Int → List R → Int → Int → List R → Int → Int → Option β
abbrev Q1 (β : Type) := List R → Int → List R → List R → List R → Int → Int → Int → Int → Int → Int → List R → Int → Int → Option β
abbrev Q2 (β : Type) := List R → Int → List R → List R → List R → Int → List R → Int → Int → Option β
noncomputable def X26_4 : Code := atF Try.f26 [true, true, false, true, false, false]
theorem i26_4 : firstReg X26_4 = 4 := by kernel_rfl
def GL26_4_0 {β : Type} (A : Pr) (B : Pk) (l26_4_0 : (Bool → Option β) → (Option β) → List R → Int → Int → Option β) (k0 : Bool → Option β) (k1 : Option β) (x0 : List R) (x1 x2 : Int) : Option β :=
    match (A.cm .lss x2 x1) with
    | true => (match (A.ix x2 (A.len x0)) with
      | some x3 => (match (B.okE [(Sh.sl 1 (Sh.i .i64)), (Sh.sl 1 (Sh.i .i64))] true x0 x3) with
        | true => (match (A.cm .gtr (A.on (A.len (B.cl x0 x3 0))) 40) with
          | true => (k0 false)
          | false => (match (A.cm .gtr (A.on (A.len (B.cl x0 x3 1))) 40) with
            | true => (k0 false)
            | false => (l26_4_0 k0 k1 x0 x1 (A.ar .add .i64 x2 1))))
        | false => none)
      | none => none)
    | false => k1
def L26_4_0 {β : Type} (A : Pr) (B : Pk) (N : Nat) : Nat → (Bool → Option β) → (Option β) → List R → Int → Int → Option β
  | 0, _, _, _, _, _ => none
  | n + 1, k0, k1, x0, x1, x2 =>
    GL26_4_0 A B (L26_4_0 A B N n) k0 k1 x0 x1 x2
def P0 : List PT := [.us 4, pB, .us 27]
def S0 (x0 : Bool) : List T := (T.u :: T.u :: T.u :: T.u :: (tB x0) :: T.u :: T.u :: T.u :: T.u :: T.u :: T.u :: T.u :: T.u :: T.u :: T.u :: T.u :: T.u :: T.u :: T.u :: T.u :: T.u :: T.u :: T.u :: T.u :: T.u :: T.u :: T.u :: T.u :: T.u :: T.u :: T.u :: T.u :: [])
def P1 : List PT := [.us 32]
def S1  : List T := (T.u :: T.u :: T.u :: T.u :: T.u :: T.u :: T.u :: T.u :: T.u :: T.u :: T.u :: T.u :: T.u :: T.u :: T.u :: T.u :: T.u :: T.u :: T.u :: T.u :: T.u :: T.u :: T.u :: T.u :: T.u :: T.u :: T.u :: T.u :: T.u :: T.u :: T.u :: T.u :: [])
def P2 : List PT := [.us 15, (.r (.ro 2)), pI, pI, .us 14]
noncomputable def M26_4 {β : Type} (l26_4_0 : (Bool → Option β) → (Option β) → List R → Int → Int → Option β) (s : List T) : Option ((Ex → List T → Option β) → Option β) :=
  match gTs P2 (clean ((Hn 26).lp 4).1 s) [] with
  | some [.l x0, .i x1, .i x2] => some fun kk => l26_4_0 (fun x3 => kk Ex.rt (S0 x3)) (kk (Ex.ex 0) (S1)) x0 x1 x2
  | _ => none
theorem e26_4_0 {β : Type} (A : Pr) (B : Pk) (l26_4_0 : (Bool → Option β) → (Option β) → List R → Int → Int → Option β) (x0 : List R) (x1 x2 : Int) (kk : Ex → List T → Option β) :
    uTs P2 [.l x0, .i x1, .i x2] (fun s _ => evK (mkK Try.prog A B [] [] (Hn 26).pt []) X26_4 s (fun e s' => match e with
      | .nm => (match M26_4 l26_4_0 s' with | some h => h kk | none => none)
      | .ex m => kk (.ex m) (clean ((Hn 26).lp (firstReg X26_4)).2 s')
      | .rt => kk .rt (clean ((Hn 26).lp (firstReg X26_4)).2 s'))) = GL26_4_0 A B l26_4_0 (fun x3 => kk Ex.rt (S0 x3)) (kk (Ex.ex 0) (S1)) x0 x1 x2 := by kernel_rfl
theorem ol26_4 {β : Type} (N : Nat) : ∀ n, SndL (β := β) Try.prog Hn (Hn 26) X26_4 (M26_4 (L26_4_0 re rk N n))
  | 0 => by
    intro s h kk r ha hr
    unfold M26_4 at ha
    split at ha
    · cases ha; cases hr
    · cases ha
  | n + 1 => by
    have ih := ol26_4 (β := β) N n
    intro s h kk r ha hr
    unfold M26_4 at ha
    split at ha
    · rename_i hs
      cases ha
      have hk := via_pat hs ((e26_4_0 re rk (L26_4_0 re rk N n) _ _ _ kk).trans hr)
      exact round_ok (show SndAll Try.prog Hn [] from trivial) (spots := []) (by kernel_rfl) trivial ih (hd := clean ((Hn 26).lp 4).1 s) (by rw [i26_4]) hk
    · cases ha
def G26_0 {β : Type} (A : Pr) (B : Pk) (l26_4_0 : (Bool → Option β) → (Option β) → List R → Int → Int → Option β) (x0 x1 : List R) (k0 : Bool → Option β) : Option β :=
    match (A.cm .gtr (A.on (A.len x0)) 40) with
    | true => (k0 false)
    | false => (match (A.cm .gtr (A.on (A.len x1)) 20) with
      | true => (k0 false)
      | false => (l26_4_0 (fun x2 =>
        k0 x2) (k0 true) x0 (A.on (A.len x0)) 0))
def F26_0 {β : Type} (A : Pr) (B : Pk) (N : Nat) (x0 x1 : List R) (k0 : Bool → Option β) : Option β :=
  G26_0 A B (L26_4_0 A B N N) x0 x1 k0
def P3 : List PT := [(.r (.ro 2)), (.r (.ro 1))]
def M26_0 {β : Type} (f26_0 : List R → List R → (Bool → Option β) → Option β) (a : List T) : Option ((T → List (List T) → Option β) → Option β) :=
  match gTs P3 a [] with
  | some [.l x0, .l x1] => some fun kk => f26_0 x0 x1 (fun x2 => kk (tB x2) [])
  | _ => none
theorem e26_0 {β : Type} (A : Pr) (B : Pk) (l26_4_0 : (Bool → Option β) → (Option β) → List R → Int → Int → Option β) (x0 x1 : List R) (kk : T → List (List T) → Option β) :
    uTs P3 [.l x0, .l x1] (fun a _ => bodyK (mkK Try.prog A B [] [(4, M26_4 l26_4_0)] (Hn 26).pt []) Try.f26 a kk) = G26_0 A B l26_4_0 x0 x1 (fun x2 => kk (tB x2) []) := by kernel_rfl
theorem o26_0 {β : Type} (N : Nat) : Snd (β := β) Try.prog Hn 26 (M26_0 (F26_0 re rk N)) := by
  intro a h kk r ha hr
  unfold M26_0 at ha
  split at ha
  · rename_i hs
    cases ha
    have hk := via_pat hs ((e26_0 re rk (L26_4_0 re rk N N) _ _ kk).trans hr)
    exact fn_ok (f := 26) (fn := Try.f26) (H := Hn) (by kernel_rfl) (show SndAll Try.prog Hn [] from trivial) (spots := [.lp X26_4]) (by kernel_rfl) ⟨cut_lp (id := 4) i26_4 (ol26_4 N N) (fun s kk => by kernel_rfl), trivial⟩ hk
  · cases ha
def M23_0 {β : Type} (a : List T) : Option ((T → List (List T) → Option β) → Option β) :=
  match a with
  | [] => some fun kk => kk (tB true) []
  | _ => none
theorem r23_0 : runF Try.prog re Hn 40 23 [] = some (T.r (R.b true), []) := by kernel_rfl
theorem o23_0 {β : Type} (N : Nat) : Snd (β := β) Try.prog Hn 23 M23_0 := by
  refine closed_ok r23_0 fun a h ha => ?_
  unfold M23_0 at ha
  split at ha
  · cases ha; exact ⟨rfl, rfl⟩
  · cases ha
noncomputable def X106_5 : Code := atF Try.f106 [true, true, true, false, true, false, false]
theorem i106_5 : firstReg X106_5 = 5 := by kernel_rfl
def GL106_5_0 {β : Type} (A : Pr) (B : Pk) (l106_5_0 : (Bool → Option β) → (Option β) → List R → List R → Int → Int → Option β) (k0 : Bool → Option β) (k1 : Option β) (x0 x1 : List R) (x2 x3 : Int) : Option β :=
    match (A.cm .lss x3 x2) with
    | true => (match (A.cm .gtr x3 0) with
      | true => (match (A.ix x3 (A.len x0)) with
        | some x4 => (match (B.okE [(Sh.i .i64)] false x0 x4) with
          | true => (match (A.ix (A.ar .sub .i64 x3 1) (A.len x0)) with
            | some x5 => (match (B.okE [(Sh.i .i64)] false x0 x5) with
              | true => (match (A.cm .lss (B.ci x0 x4 0) (B.ci x0 x5 0)) with
                | true => (k0 false)
                | false => (match (A.ix x3 (A.len x1)) with
                  | some x6 => (match (B.okE [(Sh.i .i64)] false x1 x6) with
                    | true => (match (A.cm .lss (B.ci x1 x6 0) 0) with
                      | true => (k0 false)
                      | false => (match (A.ix x3 (A.len x1)) with
                        | some x7 => (match (B.okE [(Sh.i .i64)] false x1 x7) with
                          | true => (match (A.cm .gtr (B.ci x1 x7 0) 70368744177664) with
                            | true => (k0 false)
                            | false => (l106_5_0 k0 k1 x0 x1 x2 (A.ar .add .i64 x3 1)))
                          | false => none)
                        | none => none))
                    | false => none)
                  | none => none))
              | false => none)
            | none => none)
          | false => none)
        | none => none)
      | false => (match (A.ix x3 (A.len x1)) with
        | some x8 => (match (B.okE [(Sh.i .i64)] false x1 x8) with
          | true => (match (A.cm .lss (B.ci x1 x8 0) 0) with
            | true => (k0 false)
            | false => (match (A.ix x3 (A.len x1)) with
              | some x9 => (match (B.okE [(Sh.i .i64)] false x1 x9) with
                | true => (match (A.cm .gtr (B.ci x1 x9 0) 70368744177664) with
                  | true => (k0 false)
                  | false => (l106_5_0 k0 k1 x0 x1 x2 (A.ar .add .i64 x3 1)))
                | false => none)
              | none => none))
          | false => none)
        | none => none))
    | false => k1
def L106_5_0 {β : Type} (A : Pr) (B : Pk) (N : Nat) : Nat → (Bool → Option β) → (Option β) → List R → List R → Int → Int → Option β
  | 0, _, _, _, _, _, _ => none
  | n + 1, k0, k1, x0, x1, x2, x3 =>
    GL106_5_0 A B (L106_5_0 A B N n) k0 k1 x0 x1 x2 x3
def P4 : List PT := [.us 2, pB, .us 71]
def S4 (x0 : Bool) : List T := (T.u :: T.u :: (tB x0) :: T.u :: T.u :: T.u :: T.u :: T.u :: T.u :: T.u :: T.u :: T.u :: T.u :: T.u :: T.u :: T.u :: T.u :: T.u :: T.u :: T.u :: T.u :: T.u :: T.u :: T.u :: T.u :: T.u :: T.u :: T.u :: T.u :: T.u :: T.u :: T.u :: T.u :: T.u :: T.u :: T.u :: T.u :: T.u :: T.u :: T.u :: T.u :: T.u :: T.u :: T.u :: T.u :: T.u :: T.u :: T.u :: T.u :: T.u :: T.u :: T.u :: T.u :: T.u :: T.u :: T.u :: T.u :: T.u :: T.u :: T.u :: T.u :: T.u :: T.u :: T.u :: T.u :: T.u :: T.u :: T.u :: T.u :: T.u :: T.u :: T.u :: T.u :: T.u :: [])
def P5 : List PT := [.us 74]
def S5  : List T := (T.u :: T.u :: T.u :: T.u :: T.u :: T.u :: T.u :: T.u :: T.u :: T.u :: T.u :: T.u :: T.u :: T.u :: T.u :: T.u :: T.u :: T.u :: T.u :: T.u :: T.u :: T.u :: T.u :: T.u :: T.u :: T.u :: T.u :: T.u :: T.u :: T.u :: T.u :: T.u :: T.u :: T.u :: T.u :: T.u :: T.u :: T.u :: T.u :: T.u :: T.u :: T.u :: T.u :: T.u :: T.u :: T.u :: T.u :: T.u :: T.u :: T.u :: T.u :: T.u :: T.u :: T.u :: T.u :: T.u :: T.u :: T.u :: T.u :: T.u :: T.u :: T.u :: T.u :: T.u :: T.u :: T.u :: T.u :: T.u :: T.u :: T.u :: T.u :: T.u :: T.u :: T.u :: [])
def P6 : List PT := [.us 1, (.bx [(.r (.ro 1)), (.r (.ro 1))]), .us 35, pI, pI, .us 35]
noncomputable def M106_5 {β : Type} (l106_5_0 : (Bool → Option β) → (Option β) → List R → List R → Int → Int → Option β) (s : List T) : Option ((Ex → List T → Option β) → Option β) :=
  match gTs P6 (clean ((Hn 106).lp 5).1 s) [] with
  | some [.l x0, .l x1, .i x2, .i x3] => some fun kk => l106_5_0 (fun x4 => kk Ex.rt (S4 x4)) (kk (Ex.ex 0) (S5)) x0 x1 x2 x3
  | _ => none
theorem e106_5_0 {β : Type} (A : Pr) (B : Pk) (l106_5_0 : (Bool → Option β) → (Option β) → List R → List R → Int → Int → Option β) (x0 x1 : List R) (x2 x3 : Int) (kk : Ex → List T → Option β) :
    uTs P6 [.l x0, .l x1, .i x2, .i x3] (fun s _ => evK (mkK Try.prog A B [] [] (Hn 106).pt []) X106_5 s (fun e s' => match e with
      | .nm => (match M106_5 l106_5_0 s' with | some h => h kk | none => none)
      | .ex m => kk (.ex m) (clean ((Hn 106).lp (firstReg X106_5)).2 s')
      | .rt => kk .rt (clean ((Hn 106).lp (firstReg X106_5)).2 s'))) = GL106_5_0 A B l106_5_0 (fun x4 => kk Ex.rt (S4 x4)) (kk (Ex.ex 0) (S5)) x0 x1 x2 x3 := by kernel_rfl
theorem ol106_5 {β : Type} (N : Nat) : ∀ n, SndL (β := β) Try.prog Hn (Hn 106) X106_5 (M106_5 (L106_5_0 re rk N n))
  | 0 => by
    intro s h kk r ha hr
    unfold M106_5 at ha
    split at ha
    · cases ha; cases hr
    · cases ha
  | n + 1 => by
    have ih := ol106_5 (β := β) N n
    intro s h kk r ha hr
    unfold M106_5 at ha
    split at ha
    · rename_i hs
      cases ha
      have hk := via_pat hs ((e106_5_0 re rk (L106_5_0 re rk N n) _ _ _ _ kk).trans hr)
      exact round_ok (show SndAll Try.prog Hn [] from trivial) (spots := []) (by kernel_rfl) trivial ih (hd := clean ((Hn 106).lp 5).1 s) (by rw [i106_5]) hk
    · cases ha
def G106_0 {β : Type} (A : Pr) (B : Pk) (l106_5_0 : (Bool → Option β) → (Option β) → List R → List R → Int → Int → Option β) (x0 x1 : List R) (k0 : Bool → Option β) : Option β :=
    match (A.cm .neq (A.on (A.len x0)) (A.on (A.len x1))) with
    | true => (k0 false)
    | false => (match (A.cm .lss (A.on (A.len x0)) 1) with
      | true => (k0 false)
      | false => (match (A.cm .gtr (A.on (A.len x0)) 179) with
        | true => (k0 false)
        | false => (match (A.ix 0 (A.len x0)) with
          | some x2 => (match (B.okE [(Sh.i .i64)] false x0 x2) with
            | true => (match (A.cm .neq (B.ci x0 x2 0) 0) with
              | true => (k0 false)
              | false => (match (A.ix (A.ar .sub .i64 (A.on (A.len x0)) 1) (A.len x0)) with
                | some x3 => (match (B.okE [(Sh.i .i64)] false x0 x3) with
                  | true => (match (A.cm .gtr (B.ci x0 x3 0) 65535) with
                    | true => (k0 false)
                    | false => (l106_5_0 (fun x4 =>
                      k0 x4) (k0 true) x0 x1 (A.on (A.len x0)) 0))
                  | false => none)
                | none => none))
            | false => none)
          | none => none)))
def F106_0 {β : Type} (A : Pr) (B : Pk) (N : Nat) (x0 x1 : List R) (k0 : Bool → Option β) : Option β :=
  G106_0 A B (L106_5_0 A B N N) x0 x1 k0
def P7 : List PT := [(.r (.a [(.ro 1), (.ro 1)]))]
def M106_0 {β : Type} (f106_0 : List R → List R → (Bool → Option β) → Option β) (a : List T) : Option ((T → List (List T) → Option β) → Option β) :=
  match gTs P7 a [] with
  | some [.l x0, .l x1] => some fun kk => f106_0 x0 x1 (fun x2 => kk (tB x2) [])
  | _ => none
theorem e106_0 {β : Type} (A : Pr) (B : Pk) (l106_5_0 : (Bool → Option β) → (Option β) → List R → List R → Int → Int → Option β) (x0 x1 : List R) (kk : T → List (List T) → Option β) :
    uTs P7 [.l x0, .l x1] (fun a _ => bodyK (mkK Try.prog A B [] [(5, M106_5 l106_5_0)] (Hn 106).pt []) Try.f106 a kk) = G106_0 A B l106_5_0 x0 x1 (fun x2 => kk (tB x2) []) := by kernel_rfl
theorem o106_0 {β : Type} (N : Nat) : Snd (β := β) Try.prog Hn 106 (M106_0 (F106_0 re rk N)) := by
  intro a h kk r ha hr
  unfold M106_0 at ha
  split at ha
  · rename_i hs
    cases ha
    have hk := via_pat hs ((e106_0 re rk (L106_5_0 re rk N N) _ _ kk).trans hr)
    exact fn_ok (f := 106) (fn := Try.f106) (H := Hn) (by kernel_rfl) (show SndAll Try.prog Hn [] from trivial) (spots := [.lp X106_5]) (by kernel_rfl) ⟨cut_lp (id := 5) i106_5 (ol106_5 N N) (fun s kk => by kernel_rfl), trivial⟩ hk
  · cases ha
noncomputable def X82_4 : Code := atF Try.f82 [true, true, false, true, false, false]
theorem i82_4 : firstReg X82_4 = 4 := by kernel_rfl
def GL82_4_0 {β : Type} (A : Pr) (B : Pk) (f106_0 : List R → List R → (Bool → Option β) → Option β) (l82_4_0 : (Int → Option β) → (Option β) → List R → Int → Int → Option β) (k0 : Int → Option β) (k1 : Option β) (x0 : List R) (x1 x2 : Int) : Option β :=
    match (A.cm .lss x2 x1) with
    | true => (match (A.ix x2 (A.len x0)) with
      | some x3 => (match (B.okE [(Sh.sl 1 (Sh.i .i64)), (Sh.sl 1 (Sh.i .i64))] true x0 x3) with
        | true => (f106_0 (B.cl x0 x3 0) (B.cl x0 x3 1) (fun x4 =>
          match (A.bn x4) with
            | true => (k0 1)
            | false => (l82_4_0 k0 k1 x0 x1 (A.ar .add .i64 x2 1))))
        | false => none)
      | none => none)
    | false => k1
def L82_4_0 {β : Type} (A : Pr) (B : Pk) (N : Nat) : Nat → (Int → Option β) → (Option β) → List R → Int → Int → Option β
  | 0, _, _, _, _, _ => none
  | n + 1, k0, k1, x0, x1, x2 =>
    GL82_4_0 A B (F106_0 A B N) (L82_4_0 A B N n) k0 k1 x0 x1 x2
def P8 : List PT := [.us 2, pI, .us 15]
def S8 (x0 : Int) : List T := [T.u, T.u, (tI x0), T.u, T.u, T.u, T.u, T.u, T.u, T.u, T.u, T.u, T.u, T.u, T.u, T.u, T.u, T.u]
def P9 : List PT := [.us 18]
def S9  : List T := [T.u, T.u, T.u, T.u, T.u, T.u, T.u, T.u, T.u, T.u, T.u, T.u, T.u, T.u, T.u, T.u, T.u, T.u]
def P10 : List PT := [.us 8, (.r (.ro 2)), pI, pI, .us 7]
noncomputable def M82_4 {β : Type} (l82_4_0 : (Int → Option β) → (Option β) → List R → Int → Int → Option β) (s : List T) : Option ((Ex → List T → Option β) → Option β) :=
  match gTs P10 (clean ((Hn 82).lp 4).1 s) [] with
  | some [.l x0, .i x1, .i x2] => some fun kk => l82_4_0 (fun x3 => kk Ex.rt (S8 x3)) (kk (Ex.ex 0) (S9)) x0 x1 x2
  | _ => none
theorem e82_4_0 {β : Type} (A : Pr) (B : Pk) (f106_0 : List R → List R → (Bool → Option β) → Option β) (l82_4_0 : (Int → Option β) → (Option β) → List R → Int → Int → Option β) (x0 : List R) (x1 x2 : Int) (kk : Ex → List T → Option β) :
    uTs P10 [.l x0, .i x1, .i x2] (fun s _ => evK (mkK Try.prog A B [(106, M106_0 f106_0)] [] (Hn 82).pt []) X82_4 s (fun e s' => match e with
      | .nm => (match M82_4 l82_4_0 s' with | some h => h kk | none => none)
      | .ex m => kk (.ex m) (clean ((Hn 82).lp (firstReg X82_4)).2 s')
      | .rt => kk .rt (clean ((Hn 82).lp (firstReg X82_4)).2 s'))) = GL82_4_0 A B f106_0 l82_4_0 (fun x3 => kk Ex.rt (S8 x3)) (kk (Ex.ex 0) (S9)) x0 x1 x2 := by kernel_rfl
theorem ol82_4 {β : Type} (N : Nat) : ∀ n, SndL (β := β) Try.prog Hn (Hn 82) X82_4 (M82_4 (L82_4_0 re rk N n))
  | 0 => by
    intro s h kk r ha hr
    unfold M82_4 at ha
    split at ha
    · cases ha; cases hr
    · cases ha
  | n + 1 => by
    have ih := ol82_4 (β := β) N n
    intro s h kk r ha hr
    unfold M82_4 at ha
    split at ha
    · rename_i hs
      cases ha
      have hk := via_pat hs ((e82_4_0 re rk (F106_0 re rk N) (L82_4_0 re rk N n) _ _ _ kk).trans hr)
      exact round_ok (show SndAll Try.prog Hn [(106, M106_0 (F106_0 re rk N))] from ⟨o106_0 N, trivial⟩) (spots := []) (by kernel_rfl) trivial ih (hd := clean ((Hn 82).lp 4).1 s) (by rw [i82_4]) hk
    · cases ha
def G82_0 {β : Type} (A : Pr) (B : Pk) (l82_4_0 : (Int → Option β) → (Option β) → List R → Int → Int → Option β) (x0 : List R) (k0 : Int → Option β) : Option β :=
    match (A.cm .gtr (A.on (A.len x0)) 65536) with
    | true => (k0 5)
    | false => (l82_4_0 (fun x1 =>
      k0 x1) (k0 0) x0 (A.on (A.len x0)) 0)
def F82_0 {β : Type} (A : Pr) (B : Pk) (N : Nat) (x0 : List R) (k0 : Int → Option β) : Option β :=
  G82_0 A B (L82_4_0 A B N N) x0 k0
def P11 : List PT := [(.r (.ro 2))]
def M82_0 {β : Type} (f82_0 : List R → (Int → Option β) → Option β) (a : List T) : Option ((T → List (List T) → Option β) → Option β) :=
  match gTs P11 a [] with
  | some [.l x0] => some fun kk => f82_0 x0 (fun x1 => kk (tI x1) [])
  | _ => none
theorem e82_0 {β : Type} (A : Pr) (B : Pk) (l82_4_0 : (Int → Option β) → (Option β) → List R → Int → Int → Option β) (x0 : List R) (kk : T → List (List T) → Option β) :
    uTs P11 [.l x0] (fun a _ => bodyK (mkK Try.prog A B [] [(4, M82_4 l82_4_0)] (Hn 82).pt []) Try.f82 a kk) = G82_0 A B l82_4_0 x0 (fun x1 => kk (tI x1) []) := by kernel_rfl
theorem o82_0 {β : Type} (N : Nat) : Snd (β := β) Try.prog Hn 82 (M82_0 (F82_0 re rk N)) := by
  intro a h kk r ha hr
  unfold M82_0 at ha
  split at ha
  · rename_i hs
    cases ha
    have hk := via_pat hs ((e82_0 re rk (L82_4_0 re rk N N) _ kk).trans hr)
    exact fn_ok (f := 82) (fn := Try.f82) (H := Hn) (by kernel_rfl) (show SndAll Try.prog Hn [] from trivial) (spots := [.lp X82_4]) (by kernel_rfl) ⟨cut_lp (id := 4) i82_4 (ol82_4 N N) (fun s kk => by kernel_rfl), trivial⟩ hk
  · cases ha
noncomputable def X53_7 : Code := atF Try.f53 [true, true, true, false, true, false, false]
theorem i53_7 : firstReg X53_7 = 7 := by kernel_rfl
def GL53_7_0 {β : Type} (A : Pr) (B : Pk) (l53_7_0 : (List R → List R → List R → Int → Option β) → (List R → List R → Option β) → List R → List R → List R → Int → Int → Option β) (k0 : List R → List R → List R → Int → Option β) (k1 : List R → List R → Option β) (x0 x1 x2 : List R) (x3 x4 : Int) : Option β :=
    match (A.cm .lss x4 x3) with
    | true => (match (A.ix x4 (A.len x2)) with
      | some x5 => (match (B.okE [(Sh.i .i64)] false x2 x5) with
        | true => (match (A.cm .lss (B.ci x2 x5 0) (-1)) with
          | true => (k0 x0 x1 [] 2)
          | false => (match (A.cm .eql (B.ci x2 x5 0) (-1)) with
            | true => (match (A.bn (A.cm .eql x4 (A.ar .sub .i64 (A.on (A.len x1)) 1))) with
              | true => (k0 x0 x1 [] 2)
              | false => (match (A.cm .neq (B.ci x2 x5 0) (-1)) with
                | true => (match (A.cm .gtr x4 0) with
                  | true => (match (A.ix (A.ar .sub .i64 x4 1) (A.len x1)) with
                    | some x6 => (match (B.okE [(Sh.i .i64)] false x1 x6) with
                      | true => (match (A.cm .lss (B.ci x2 x5 0) (B.ci x1 x6 0)) with
                        | true => (k0 x0 x1 [] 2)
                        | false => (l53_7_0 k0 k1 x0 x1 x2 x3 (A.ar .add .i64 x4 1)))
                      | false => none)
                    | none => none)
                  | false => (l53_7_0 k0 k1 x0 x1 x2 x3 (A.ar .add .i64 x4 1)))
                | false => (l53_7_0 k0 k1 x0 x1 x2 x3 (A.ar .add .i64 x4 1))))
            | false => (match (A.cm .neq (B.ci x2 x5 0) (-1)) with
              | true => (match (A.cm .gtr x4 0) with
                | true => (match (A.ix (A.ar .sub .i64 x4 1) (A.len x1)) with
                  | some x7 => (match (B.okE [(Sh.i .i64)] false x1 x7) with
                    | true => (match (A.cm .lss (B.ci x2 x5 0) (B.ci x1 x7 0)) with
                      | true => (k0 x0 x1 [] 2)
                      | false => (l53_7_0 k0 k1 x0 x1 x2 x3 (A.ar .add .i64 x4 1)))
                    | false => none)
                  | none => none)
                | false => (l53_7_0 k0 k1 x0 x1 x2 x3 (A.ar .add .i64 x4 1)))
              | false => (l53_7_0 k0 k1 x0 x1 x2 x3 (A.ar .add .i64 x4 1)))))
        | false => none)
      | none => none)
    | false => (k1 x0 x1)
def L53_7_0 {β : Type} (A : Pr) (B : Pk) (N : Nat) : Nat → (List R → List R → List R → Int → Option β) → (List R → List R → Option β) → List R → List R → List R → Int → Int → Option β
  | 0, _, _, _, _, _, _, _ => none
  | n + 1, k0, k1, x0, x1, x2, x3, x4 =>
    GL53_7_0 A B (L53_7_0 A B N n) k0 k1 x0 x1 x2 x3 x4
def P12 : List PT := [(.r (.ro 2)), (.r (.ro 1)), .us 2, (.own false 1), pI, .us 85]
def S12 (x0 x1 x2 : List R) (x3 : Int) : List T := ((T.r (R.ro 2 x0)) :: (T.r (R.ro 1 x1)) :: T.u :: T.u :: (T.own false 1 x2) :: (tI x3) :: T.u :: T.u :: T.u :: T.u :: T.u :: T.u :: T.u :: T.u :: T.u :: T.u :: T.u :: T.u :: T.u :: T.u :: T.u :: T.u :: T.u :: T.u :: T.u :: T.u :: T.u :: T.u :: T.u :: T.u :: T.u :: T.u :: T.u :: T.u :: T.u :: T.u :: T.u :: T.u :: T.u :: T.u :: T.u :: T.u :: T.u :: T.u :: T.u :: T.u :: T.u :: T.u :: T.u :: T.u :: T.u :: T.u :: T.u :: T.u :: T.u :: T.u :: T.u :: T.u :: T.u :: T.u :: T.u :: T.u :: T.u :: T.u :: T.u :: T.u :: T.u :: T.u :: T.u :: T.u :: T.u :: T.u :: T.u :: T.u :: T.u :: T.u :: T.u :: T.u :: T.u :: T.u :: T.u :: T.u :: T.u :: T.u :: T.u :: T.u :: T.u :: T.u :: T.u :: T.u :: T.u :: [])
def P13 : List PT := [(.r (.ro 2)), (.r (.ro 1)), .us 89]
def S13 (x0 x1 : List R) : List T := ((T.r (R.ro 2 x0)) :: (T.r (R.ro 1 x1)) :: T.u :: T.u :: T.u :: T.u :: T.u :: T.u :: T.u :: T.u :: T.u :: T.u :: T.u :: T.u :: T.u :: T.u :: T.u :: T.u :: T.u :: T.u :: T.u :: T.u :: T.u :: T.u :: T.u :: T.u :: T.u :: T.u :: T.u :: T.u :: T.u :: T.u :: T.u :: T.u :: T.u :: T.u :: T.u :: T.u :: T.u :: T.u :: T.u :: T.u :: T.u :: T.u :: T.u :: T.u :: T.u :: T.u :: T.u :: T.u :: T.u :: T.u :: T.u :: T.u :: T.u :: T.u :: T.u :: T.u :: T.u :: T.u :: T.u :: T.u :: T.u :: T.u :: T.u :: T.u :: T.u :: T.u :: T.u :: T.u :: T.u :: T.u :: T.u :: T.u :: T.u :: T.u :: T.u :: T.u :: T.u :: T.u :: T.u :: T.u :: T.u :: T.u :: T.u :: T.u :: T.u :: T.u :: T.u :: T.u :: T.u :: [])
def P14 : List PT := [(.r (.ro 2)), (.r (.ro 1)), .us 25, (.r (.ro 1)), pI, pI, .us 61]
noncomputable def M53_7 {β : Type} (l53_7_0 : (List R → List R → List R → Int → Option β) → (List R → List R → Option β) → List R → List R → List R → Int → Int → Option β) (s : List T) : Option ((Ex → List T → Option β) → Option β) :=
  match gTs P14 (clean ((Hn 53).lp 7).1 s) [] with
  | some [.l x0, .l x1, .l x2, .i x3, .i x4] => some fun kk => l53_7_0 (fun x5 x6 x7 x8 => kk Ex.rt (S12 x5 x6 x7 x8)) (fun x9 xa => kk (Ex.ex 0) (S13 x9 xa)) x0 x1 x2 x3 x4
  | _ => none
theorem e53_7_0 {β : Type} (A : Pr) (B : Pk) (l53_7_0 : (List R → List R → List R → Int → Option β) → (List R → List R → Option β) → List R → List R → List R → Int → Int → Option β) (x0 x1 x2 : List R) (x3 x4 : Int) (kk : Ex → List T → Option β) :
    uTs P14 [.l x0, .l x1, .l x2, .i x3, .i x4] (fun s _ => evK (mkK Try.prog A B [] [] (Hn 53).pt []) X53_7 s (fun e s' => match e with
      | .nm => (match M53_7 l53_7_0 s' with | some h => h kk | none => none)
      | .ex m => kk (.ex m) (clean ((Hn 53).lp (firstReg X53_7)).2 s')
      | .rt => kk .rt (clean ((Hn 53).lp (firstReg X53_7)).2 s'))) = GL53_7_0 A B l53_7_0 (fun x5 x6 x7 x8 => kk Ex.rt (S12 x5 x6 x7 x8)) (fun x9 xa => kk (Ex.ex 0) (S13 x9 xa)) x0 x1 x2 x3 x4 := by kernel_rfl
theorem ol53_7 {β : Type} (N : Nat) : ∀ n, SndL (β := β) Try.prog Hn (Hn 53) X53_7 (M53_7 (L53_7_0 re rk N n))
  | 0 => by
    intro s h kk r ha hr
    unfold M53_7 at ha
    split at ha
    · cases ha; cases hr
    · cases ha
  | n + 1 => by
    have ih := ol53_7 (β := β) N n
    intro s h kk r ha hr
    unfold M53_7 at ha
    split at ha
    · rename_i hs
      cases ha
      have hk := via_pat hs ((e53_7_0 re rk (L53_7_0 re rk N n) _ _ _ _ _ kk).trans hr)
      exact round_ok (show SndAll Try.prog Hn [] from trivial) (spots := []) (by kernel_rfl) trivial ih (hd := clean ((Hn 53).lp 7).1 s) (by rw [i53_7]) hk
    · cases ha
def G124_0 {β : Type} (A : Pr) (B : Pk) (x0 x1 : Int) (k0 : Bool → Option β) : Option β :=
    match (A.cm .geq x0 0) with
    | true => (match (A.cm .leq x0 70368744177664) with
      | true => (match (A.cm .geq x1 0) with
        | true => (k0 (A.cm .leq x1 65535))
        | false => (k0 false))
      | false => (k0 false))
    | false => (k0 false)
def F124_0 {β : Type} (A : Pr) (B : Pk) (N : Nat) (x0 x1 : Int) (k0 : Bool → Option β) : Option β :=
  G124_0 A B  x0 x1 k0
def P15 : List PT := [pI, pI]
def M124_0 {β : Type} (f124_0 : Int → Int → (Bool → Option β) → Option β) (a : List T) : Option ((T → List (List T) → Option β) → Option β) :=
  match gTs P15 a [] with
  | some [.i x0, .i x1] => some fun kk => f124_0 x0 x1 (fun x2 => kk (tB x2) [])
  | _ => none
theorem e124_0 {β : Type} (A : Pr) (B : Pk) (x0 x1 : Int) (kk : T → List (List T) → Option β) :
    uTs P15 [.i x0, .i x1] (fun a _ => bodyK (mkK Try.prog A B [] [] (Hn 124).pt []) Try.f124 a kk) = G124_0 A B  x0 x1 (fun x2 => kk (tB x2) []) := by kernel_rfl
theorem o124_0 {β : Type} (N : Nat) : Snd (β := β) Try.prog Hn 124 (M124_0 (F124_0 re rk N)) := by
  intro a h kk r ha hr
  unfold M124_0 at ha
  split at ha
  · rename_i hs
    cases ha
    have hk := via_pat hs ((e124_0 re rk  _ _ kk).trans hr)
    exact fn_ok (f := 124) (fn := Try.f124) (H := Hn) (by kernel_rfl) (show SndAll Try.prog Hn [] from trivial) (spots := []) (by kernel_rfl) trivial hk
  · cases ha
def G125_0 {β : Type} (A : Pr) (B : Pk) (x0 x1 : Int) (k0 : Bool → Option β) : Option β :=
    match (A.cm .eql x1 0) with
    | true => (k0 (A.cm .gtr x0 0))
    | false => (k0 false)
def F125_0 {β : Type} (A : Pr) (B : Pk) (N : Nat) (x0 x1 : Int) (k0 : Bool → Option β) : Option β :=
  G125_0 A B  x0 x1 k0
def M125_0 {β : Type} (f125_0 : Int → Int → (Bool → Option β) → Option β) (a : List T) : Option ((T → List (List T) → Option β) → Option β) :=
  match gTs P15 a [] with
  | some [.i x0, .i x1] => some fun kk => f125_0 x0 x1 (fun x2 => kk (tB x2) [])
  | _ => none
theorem e125_0 {β : Type} (A : Pr) (B : Pk) (x0 x1 : Int) (kk : T → List (List T) → Option β) :
    uTs P15 [.i x0, .i x1] (fun a _ => bodyK (mkK Try.prog A B [] [] (Hn 125).pt []) Try.f125 a kk) = G125_0 A B  x0 x1 (fun x2 => kk (tB x2) []) := by kernel_rfl
theorem o125_0 {β : Type} (N : Nat) : Snd (β := β) Try.prog Hn 125 (M125_0 (F125_0 re rk N)) := by
  intro a h kk r ha hr
  unfold M125_0 at ha
  split at ha
  · rename_i hs
    cases ha
    have hk := via_pat hs ((e125_0 re rk  _ _ kk).trans hr)
    exact fn_ok (f := 125) (fn := Try.f125) (H := Hn) (by kernel_rfl) (show SndAll Try.prog Hn [] from trivial) (spots := []) (by kernel_rfl) trivial hk
  · cases ha
def G126_0 {β : Type} (A : Pr) (B : Pk) (x0 x1 : Int) (k0 : Int → Option β) : Option β :=
    match (A.cm .lss x0 x1) with
    | true => (k0 (-1))
    | false => (match (A.cm .gtr x0 x1) with
      | true => (k0 1)
      | false => (k0 0))
def F126_0 {β : Type} (A : Pr) (B : Pk) (N : Nat) (x0 x1 : Int) (k0 : Int → Option β) : Option β :=
  G126_0 A B  x0 x1 k0
def M126_0 {β : Type} (f126_0 : Int → Int → (Int → Option β) → Option β) (a : List T) : Option ((T → List (List T) → Option β) → Option β) :=
  match gTs P15 a [] with
  | some [.i x0, .i x1] => some fun kk => f126_0 x0 x1 (fun x2 => kk (tI x2) [])
  | _ => none
theorem e126_0 {β : Type} (A : Pr) (B : Pk) (x0 x1 : Int) (kk : T → List (List T) → Option β) :
    uTs P15 [.i x0, .i x1] (fun a _ => bodyK (mkK Try.prog A B [] [] (Hn 126).pt []) Try.f126 a kk) = G126_0 A B  x0 x1 (fun x2 => kk (tI x2) []) := by kernel_rfl
theorem o126_0 {β : Type} (N : Nat) : Snd (β := β) Try.prog Hn 126 (M126_0 (F126_0 re rk N)) := by
  intro a h kk r ha hr
  unfold M126_0 at ha
  split at ha
  · rename_i hs
    cases ha
    have hk := via_pat hs ((e126_0 re rk  _ _ kk).trans hr)
    exact fn_ok (f := 126) (fn := Try.f126) (H := Hn) (by kernel_rfl) (show SndAll Try.prog Hn [] from trivial) (spots := []) (by kernel_rfl) trivial hk
  · cases ha
def G110_0 {β : Type} (A : Pr) (B : Pk) (f124_0 : Int → Int → (Bool → Option β) → Option β) (f125_0 : Int → Int → (Bool → Option β) → Option β) (f126_0 : Int → Int → (Int → Option β) → Option β) (x0 x1 x2 x3 : Int) (k0 : Int → Option β) : Option β :=
    f124_0 x0 x1 (fun x4 =>
    match (A.bn x4) with
      | true => (k0 0)
      | false => (f124_0 x2 x3 (fun x5 =>
        match (A.bn x5) with
          | true => (k0 0)
          | false => (f125_0 x0 x1 (fun x6 =>
            f125_0 x2 x3 (fun x7 =>
              match x6 with
                | true => (match x7 with
                  | true => (k0 0)
                  | false => (match x6 with
                    | true => (k0 1)
                    | false => (match x7 with
                      | true => (k0 (-1))
                      | false => (f126_0 (A.ar .mul .i64 x0 (A.mx x3 1)) (A.ar .mul .i64 x2 (A.mx x1 1)) (fun x8 =>
                        k0 x8)))))
                | false => (match x6 with
                  | true => (k0 1)
                  | false => (match x7 with
                    | true => (k0 (-1))
                    | false => (f126_0 (A.ar .mul .i64 x0 (A.mx x3 1)) (A.ar .mul .i64 x2 (A.mx x1 1)) (fun x9 =>
                      k0 x9))))))))))
def F110_0 {β : Type} (A : Pr) (B : Pk) (N : Nat) (x0 x1 x2 x3 : Int) (k0 : Int → Option β) : Option β :=
  G110_0 A B (F124_0 A B N) (F125_0 A B N) (F126_0 A B N) x0 x1 x2 x3 k0
def P16 : List PT := [pI, pI, pI, pI]
def M110_0 {β : Type} (f110_0 : Int → Int → Int → Int → (Int → Option β) → Option β) (a : List T) : Option ((T → List (List T) → Option β) → Option β) :=
  match gTs P16 a [] with
  | some [.i x0, .i x1, .i x2, .i x3] => some fun kk => f110_0 x0 x1 x2 x3 (fun x4 => kk (tI x4) [])
  | _ => none
theorem e110_0 {β : Type} (A : Pr) (B : Pk) (f124_0 : Int → Int → (Bool → Option β) → Option β) (f125_0 : Int → Int → (Bool → Option β) → Option β) (f126_0 : Int → Int → (Int → Option β) → Option β) (x0 x1 x2 x3 : Int) (kk : T → List (List T) → Option β) :
    uTs P16 [.i x0, .i x1, .i x2, .i x3] (fun a _ => bodyK (mkK Try.prog A B [(124, M124_0 f124_0), (125, M125_0 f125_0), (126, M126_0 f126_0)] [] (Hn 110).pt []) Try.f110 a kk) = G110_0 A B f124_0 f125_0 f126_0 x0 x1 x2 x3 (fun x4 => kk (tI x4) []) := by kernel_rfl
theorem o110_0 {β : Type} (N : Nat) : Snd (β := β) Try.prog Hn 110 (M110_0 (F110_0 re rk N)) := by
  intro a h kk r ha hr
  unfold M110_0 at ha
  split at ha
  · rename_i hs
    cases ha
    have hk := via_pat hs ((e110_0 re rk (F124_0 re rk N) (F125_0 re rk N) (F126_0 re rk N) _ _ _ _ kk).trans hr)
    exact fn_ok (f := 110) (fn := Try.f110) (H := Hn) (by kernel_rfl) (show SndAll Try.prog Hn [(124, M124_0 (F124_0 re rk N)), (125, M125_0 (F125_0 re rk N)), (126, M126_0 (F126_0 re rk N))] from ⟨o124_0 N, o125_0 N, o126_0 N, trivial⟩) (spots := []) (by kernel_rfl) trivial hk
  · cases ha
def G123_0 {β : Type} (A : Pr) (B : Pk) (f110_0 : Int → Int → Int → Int → (Int → Option β) → Option β) (x0 x1 : Int) (x2 x3 : List R) (x4 : Int) (k0 : Bool → Int → List R → List R → Int → Option β) : Option β :=
    match (A.cm .lss x1 0) with
    | true => (k0 true x1 x2 x3 x4)
    | false => (match (A.ix x4 (A.len x3)) with
      | some x5 => (match (B.okE [(Sh.i .i64)] false x3 x5) with
        | true => (match (A.ix x0 (A.len x3)) with
          | some x6 => (match (B.okE [(Sh.i .i64)] false x3 x6) with
            | true => (match (A.ix x0 (A.len x2)) with
              | some x7 => (match (B.okE [(Sh.i .i64)] false x2 x7) with
                | true => (match (A.ix x4 (A.len x2)) with
                  | some x8 => (match (B.okE [(Sh.i .i64)] false x2 x8) with
                    | true => (match (A.ix x4 (A.len x3)) with
                      | some x9 => (match (B.okE [(Sh.i .i64)] false x3 x9) with
                        | true => (match (A.ix x1 (A.len x3)) with
                          | some xa => (match (B.okE [(Sh.i .i64)] false x3 xa) with
                            | true => (match (A.ix x1 (A.len x2)) with
                              | some xb => (match (B.okE [(Sh.i .i64)] false x2 xb) with
                                | true => (match (A.ix x4 (A.len x2)) with
                                  | some xc => (match (B.okE [(Sh.i .i64)] false x2 xc) with
                                    | true => (f110_0 (A.ar .sub .i64 (B.ci x3 x5 0) (B.ci x3 x6 0)) (A.ar .sub .i64 (B.ci x2 x7 0) (B.ci x2 x8 0)) (A.ar .sub .i64 (B.ci x3 x9 0) (B.ci x3 xa 0)) (A.ar .sub .i64 (B.ci x2 xb 0) (B.ci x2 xc 0)) (fun xd =>
                                      match (A.cm .gtr xd 0) with
                                        | true => (k0 true x1 x2 x3 x4)
                                        | false => (match (A.cm .eql xd 0) with
                                          | true => (match (A.ix x0 (A.len x3)) with
                                            | some xe => (match (B.okE [(Sh.i .i64)] false x3 xe) with
                                              | true => (match (A.ix x1 (A.len x3)) with
                                                | some xf => (match (B.okE [(Sh.i .i64)] false x3 xf) with
                                                  | true => (k0 (A.cm .lss (B.ci x3 xe 0) (B.ci x3 xf 0)) x1 x2 x3 x4)
                                                  | false => none)
                                                | none => none)
                                              | false => none)
                                            | none => none)
                                          | false => (k0 false x1 x2 x3 x4))))
                                    | false => none)
                                  | none => none)
                                | false => none)
                              | none => none)
                            | false => none)
                          | none => none)
                        | false => none)
                      | none => none)
                    | false => none)
                  | none => none)
                | false => none)
              | none => none)
            | false => none)
          | none => none)
        | false => none)
      | none => none)
def F123_0 {β : Type} (A : Pr) (B : Pk) (N : Nat) (x0 x1 : Int) (x2 x3 : List R) (x4 : Int) (k0 : Bool → Int → List R → List R → Int → Option β) : Option β :=
  G123_0 A B (F110_0 A B N) x0 x1 x2 x3 x4 k0
def P17 : List PT := [pI, (.bx [pI]), (.bx [(.r (.ro 1)), (.r (.ro 1))]), (.bx [pI])]
def M123_0 {β : Type} (f123_0 : Int → Int → List R → List R → Int → (Bool → Int → List R → List R → Int → Option β) → Option β) (a : List T) : Option ((T → List (List T) → Option β) → Option β) :=
  match gTs P17 a [] with
  | some [.i x0, .i x1, .l x2, .l x3, .i x4] => some fun kk => f123_0 x0 x1 x2 x3 x4 (fun x5 x6 x7 x8 x9 => kk (tB x5) [[(tI x6)], [(T.r (R.ro 1 x7)), (T.r (R.ro 1 x8))], [(tI x9)]])
  | _ => none
theorem e123_0 {β : Type} (A : Pr) (B : Pk) (f110_0 : Int → Int → Int → Int → (Int → Option β) → Option β) (x0 x1 : Int) (x2 x3 : List R) (x4 : Int) (kk : T → List (List T) → Option β) :
    uTs P17 [.i x0, .i x1, .l x2, .l x3, .i x4] (fun a _ => bodyK (mkK Try.prog A B [(110, M110_0 f110_0)] [] (Hn 123).pt []) Try.f123 a kk) = G123_0 A B f110_0 x0 x1 x2 x3 x4 (fun x5 x6 x7 x8 x9 => kk (tB x5) [[(tI x6)], [(T.r (R.ro 1 x7)), (T.r (R.ro 1 x8))], [(tI x9)]]) := by kernel_rfl
theorem o123_0 {β : Type} (N : Nat) : Snd (β := β) Try.prog Hn 123 (M123_0 (F123_0 re rk N)) := by
  intro a h kk r ha hr
  unfold M123_0 at ha
  split at ha
  · rename_i hs
    cases ha
    have hk := via_pat hs ((e123_0 re rk (F110_0 re rk N) _ _ _ _ _ kk).trans hr)
    exact fn_ok (f := 123) (fn := Try.f123) (H := Hn) (by kernel_rfl) (show SndAll Try.prog Hn [(110, M110_0 (F110_0 re rk N))] from ⟨o110_0 N, trivial⟩) (spots := []) (by kernel_rfl) trivial hk
  · cases ha
noncomputable def X107_8 : Code := atF Try.f107 [true, true, true, false, false, false, true, true, true, false, true, false, false]
theorem i107_8 : firstReg X107_8 = 8 := by kernel_rfl
def GL107_8_0 {β : Type} (A : Pr) (B : Pk) (f123_0 : Int → Int → List R → List R → Int → (Bool → Int → List R → List R → Int → Option β) → Option β) (l107_8_0 : (List R → List R → List R → Int → Option β) → List R → List R → List R → Int → Int → Int → Option β) (k0 : List R → List R → List R → Int → Option β) (x0 x1 x2 : List R) (x3 x4 x5 : Int) : Option β :=
    match (A.cm .lss x5 (A.on (A.len x1))) with
    | true => (match (A.ix x5 (A.len x1)) with
      | some x6 => (match (B.okE [(Sh.i .i64)] false x1 x6) with
        | true => (match (A.ix x3 (A.len x1)) with
          | some x7 => (match (B.okE [(Sh.i .i64)] false x1 x7) with
            | true => (match (A.cm .lss (B.ci x1 x6 0) (B.ci x1 x7 0)) with
              | true => (f123_0 x5 x4 x0 x1 x3 (fun x8 x9 xa xb xc =>
                match x8 with
                  | true => (l107_8_0 k0 xa xb x2 xc x5 (A.ar .add .i64 x5 1))
                  | false => (l107_8_0 k0 xa xb x2 xc x9 (A.ar .add .i64 x5 1))))
              | false => (l107_8_0 k0 x0 x1 x2 x3 x4 (A.ar .add .i64 x5 1)))
            | false => none)
          | none => none)
        | false => none)
      | none => none)
    | false => (k0 x0 x1 x2 x4)
def L107_8_0 {β : Type} (A : Pr) (B : Pk) (N : Nat) : Nat → (List R → List R → List R → Int → Option β) → List R → List R → List R → Int → Int → Int → Option β
  | 0, _, _, _, _, _, _, _ => none
  | n + 1, k0, x0, x1, x2, x3, x4, x5 =>
    GL107_8_0 A B (F123_0 A B N) (L107_8_0 A B N n) k0 x0 x1 x2 x3 x4 x5
def P18 : List PT := [.us 1, (.bx [(.r (.ro 1)), (.r (.ro 1))]), .us 1, (.own true 1), .us 1, (.bx [pI]), .us 46]
def S18 (x0 x1 x2 : List R) (x3 : Int) : List T := (T.u :: (T.bx [(T.r (R.ro 1 x0)), (T.r (R.ro 1 x1))]) :: T.u :: (T.own true 1 x2) :: T.u :: (T.bx [(tI x3)]) :: T.u :: T.u :: T.u :: T.u :: T.u :: T.u :: T.u :: T.u :: T.u :: T.u :: T.u :: T.u :: T.u :: T.u :: T.u :: T.u :: T.u :: T.u :: T.u :: T.u :: T.u :: T.u :: T.u :: T.u :: T.u :: T.u :: T.u :: T.u :: T.u :: T.u :: T.u :: T.u :: T.u :: T.u :: T.u :: T.u :: T.u :: T.u :: T.u :: T.u :: T.u :: T.u :: T.u :: T.u :: T.u :: T.u :: [])
def P19 : List PT := [.us 1, (.bx [(.r (.ro 1)), (.r (.ro 1))]), .us 1, (.own true 1), (.bx [pI]), (.bx [pI]), (.f 123 [(.p 5 [(.d (.lit 0))]), (.p 1 [(.d (.lit 0))]), (.p 4 [(.d (.lit 0))])]), pI, .us 44]
noncomputable def M107_8 {β : Type} (l107_8_0 : (List R → List R → List R → Int → Option β) → List R → List R → List R → Int → Int → Int → Option β) (s : List T) : Option ((Ex → List T → Option β) → Option β) :=
  match gTs P19 (clean ((Hn 107).lp 8).1 s) [] with
  | some [.l x0, .l x1, .l x2, .i x3, .i x4, .i x5] => some fun kk => l107_8_0 (fun x6 x7 x8 x9 => kk (Ex.ex 2) (S18 x6 x7 x8 x9)) x0 x1 x2 x3 x4 x5
  | _ => none
theorem e107_8_0 {β : Type} (A : Pr) (B : Pk) (f123_0 : Int → Int → List R → List R → Int → (Bool → Int → List R → List R → Int → Option β) → Option β) (l107_8_0 : (List R → List R → List R → Int → Option β) → List R → List R → List R → Int → Int → Int → Option β) (x0 x1 x2 : List R) (x3 x4 x5 : Int) (kk : Ex → List T → Option β) :
    uTs P19 [.l x0, .l x1, .l x2, .i x3, .i x4, .i x5] (fun s _ => evK (mkK Try.prog A B [(123, M123_0 f123_0)] [] (Hn 107).pt []) X107_8 s (fun e s' => match e with
      | .nm => (match M107_8 l107_8_0 s' with | some h => h kk | none => none)
      | .ex m => kk (.ex m) (clean ((Hn 107).lp (firstReg X107_8)).2 s')
      | .rt => kk .rt (clean ((Hn 107).lp (firstReg X107_8)).2 s'))) = GL107_8_0 A B f123_0 l107_8_0 (fun x6 x7 x8 x9 => kk (Ex.ex 2) (S18 x6 x7 x8 x9)) x0 x1 x2 x3 x4 x5 := by kernel_rfl
theorem ol107_8 {β : Type} (N : Nat) : ∀ n, SndL (β := β) Try.prog Hn (Hn 107) X107_8 (M107_8 (L107_8_0 re rk N n))
  | 0 => by
    intro s h kk r ha hr
    unfold M107_8 at ha
    split at ha
    · cases ha; cases hr
    · cases ha
  | n + 1 => by
    have ih := ol107_8 (β := β) N n
    intro s h kk r ha hr
    unfold M107_8 at ha
    split at ha
    · rename_i hs
      cases ha
      have hk := via_pat hs ((e107_8_0 re rk (F123_0 re rk N) (L107_8_0 re rk N n) _ _ _ _ _ _ kk).trans hr)
      exact round_ok (show SndAll Try.prog Hn [(123, M123_0 (F123_0 re rk N))] from ⟨o123_0 N, trivial⟩) (spots := []) (by kernel_rfl) trivial ih (hd := clean ((Hn 107).lp 8).1 s) (by rw [i107_8]) hk
    · cases ha
noncomputable def X107_4 : Code := atF Try.f107 [true, true, true, false, false]
theorem i107_4 : firstReg X107_4 = 4 := by kernel_rfl
def GL107_4_0 {β : Type} (A : Pr) (B : Pk) (l107_8_0 : (List R → List R → List R → Int → Option β) → List R → List R → List R → Int → Int → Int → Option β) (l107_4_0 : (List R → Option β) → List R → List R → List R → Option β) (k0 : List R → Option β) (x0 x1 x2 : List R) : Option β :=
    match (A.ix (A.ar .sub .i64 (A.on (A.len x2)) 1) (A.len x2)) with
    | some x3 => (match (B.okC [(Sh.i .i64)] x2 x3 0) with
      | true => (l107_8_0 (fun x4 x5 x6 x7 =>
        match (A.cm .lss x7 0) with
          | true => (k0 x6)
          | false => (match (A.small (A.len (A.app x6 [(R.i .i64 x7)])) 8) with
            | true => (l107_4_0 k0 x4 x5 (A.app x6 [(R.i .i64 x7)]))
            | false => none)) x0 x1 x2 (B.ci x2 x3 0) (-1) (A.ar .add .i64 (B.ci x2 x3 0) 1))
      | false => none)
    | none => none
def L107_4_0 {β : Type} (A : Pr) (B : Pk) (N : Nat) : Nat → (List R → Option β) → List R → List R → List R → Option β
  | 0, _, _, _, _ => none
  | n + 1, k0, x0, x1, x2 =>
    GL107_4_0 A B (L107_8_0 A B N N) (L107_4_0 A B N n) k0 x0 x1 x2
def P20 : List PT := [.us 2, (.own true 1), .us 49]
def S20 (x0 : List R) : List T := (T.u :: T.u :: (T.own true 1 x0) :: T.u :: T.u :: T.u :: T.u :: T.u :: T.u :: T.u :: T.u :: T.u :: T.u :: T.u :: T.u :: T.u :: T.u :: T.u :: T.u :: T.u :: T.u :: T.u :: T.u :: T.u :: T.u :: T.u :: T.u :: T.u :: T.u :: T.u :: T.u :: T.u :: T.u :: T.u :: T.u :: T.u :: T.u :: T.u :: T.u :: T.u :: T.u :: T.u :: T.u :: T.u :: T.u :: T.u :: T.u :: T.u :: T.u :: T.u :: T.u :: T.u :: [])
def P21 : List PT := [.us 1, (.bx [(.r (.ro 1)), (.r (.ro 1))]), .us 1, (.own true 1), .us 48]
noncomputable def M107_4 {β : Type} (l107_4_0 : (List R → Option β) → List R → List R → List R → Option β) (s : List T) : Option ((Ex → List T → Option β) → Option β) :=
  match gTs P21 (clean ((Hn 107).lp 4).1 s) [] with
  | some [.l x0, .l x1, .l x2] => some fun kk => l107_4_0 (fun x3 => kk Ex.rt (S20 x3)) x0 x1 x2
  | _ => none
theorem e107_4_0 {β : Type} (A : Pr) (B : Pk) (l107_8_0 : (List R → List R → List R → Int → Option β) → List R → List R → List R → Int → Int → Int → Option β) (l107_4_0 : (List R → Option β) → List R → List R → List R → Option β) (x0 x1 x2 : List R) (kk : Ex → List T → Option β) :
    uTs P21 [.l x0, .l x1, .l x2] (fun s _ => evK (mkK Try.prog A B [] [(8, M107_8 l107_8_0)] (Hn 107).pt []) X107_4 s (fun e s' => match e with
      | .nm => (match M107_4 l107_4_0 s' with | some h => h kk | none => none)
      | .ex m => kk (.ex m) (clean ((Hn 107).lp (firstReg X107_4)).2 s')
      | .rt => kk .rt (clean ((Hn 107).lp (firstReg X107_4)).2 s'))) = GL107_4_0 A B l107_8_0 l107_4_0 (fun x3 => kk Ex.rt (S20 x3)) x0 x1 x2 := by kernel_rfl
theorem ol107_4 {β : Type} (N : Nat) : ∀ n, SndL (β := β) Try.prog Hn (Hn 107) X107_4 (M107_4 (L107_4_0 re rk N n))
  | 0 => by
    intro s h kk r ha hr
    unfold M107_4 at ha
    split at ha
    · cases ha; cases hr
    · cases ha
  | n + 1 => by
    have ih := ol107_4 (β := β) N n
    intro s h kk r ha hr
    unfold M107_4 at ha
    split at ha
    · rename_i hs
      cases ha
      have hk := via_pat hs ((e107_4_0 re rk (L107_8_0 re rk N N) (L107_4_0 re rk N n) _ _ _ kk).trans hr)
      exact round_ok (show SndAll Try.prog Hn [] from trivial) (spots := [.lp X107_8]) (by kernel_rfl) ⟨cut_lp (id := 8) i107_8 (ol107_8 N N) (fun s kk => by kernel_rfl), trivial⟩ ih (hd := clean ((Hn 107).lp 4).1 s) (by rw [i107_4]) hk
    · cases ha
def G107_0 {β : Type} (A : Pr) (B : Pk) (f106_0 : List R → List R → (Bool → Option β) → Option β) (l107_4_0 : (List R → Option β) → List R → List R → List R → Option β) (x0 x1 : List R) (k0 : List R → Option β) : Option β :=
    f106_0 x0 x1 (fun x2 =>
    match (A.bn x2) with
      | true => (k0 [])
      | false => (l107_4_0 (fun x3 =>
        k0 x3) x0 x1 [(R.i .i64 0)]))
def F107_0 {β : Type} (A : Pr) (B : Pk) (N : Nat) (x0 x1 : List R) (k0 : List R → Option β) : Option β :=
  G107_0 A B (F106_0 A B N) (L107_4_0 A B N N) x0 x1 k0
def M107_0 {β : Type} (f107_0 : List R → List R → (List R → Option β) → Option β) (a : List T) : Option ((T → List (List T) → Option β) → Option β) :=
  match gTs P7 a [] with
  | some [.l x0, .l x1] => some fun kk => f107_0 x0 x1 (fun x2 => kk (T.own true 1 x2) [])
  | _ => none
theorem e107_0 {β : Type} (A : Pr) (B : Pk) (f106_0 : List R → List R → (Bool → Option β) → Option β) (l107_4_0 : (List R → Option β) → List R → List R → List R → Option β) (x0 x1 : List R) (kk : T → List (List T) → Option β) :
    uTs P7 [.l x0, .l x1] (fun a _ => bodyK (mkK Try.prog A B [(106, M106_0 f106_0)] [(4, M107_4 l107_4_0)] (Hn 107).pt []) Try.f107 a kk) = G107_0 A B f106_0 l107_4_0 x0 x1 (fun x2 => kk (T.own true 1 x2) []) := by kernel_rfl
theorem o107_0 {β : Type} (N : Nat) : Snd (β := β) Try.prog Hn 107 (M107_0 (F107_0 re rk N)) := by
  intro a h kk r ha hr
  unfold M107_0 at ha
  split at ha
  · rename_i hs
    cases ha
    have hk := via_pat hs ((e107_0 re rk (F106_0 re rk N) (L107_4_0 re rk N N) _ _ kk).trans hr)
    exact fn_ok (f := 107) (fn := Try.f107) (H := Hn) (by kernel_rfl) (show SndAll Try.prog Hn [(106, M106_0 (F106_0 re rk N))] from ⟨o106_0 N, trivial⟩) (spots := [.lp X107_4]) (by kernel_rfl) ⟨cut_lp (id := 4) i107_4 (ol107_4 N N) (fun s kk => by kernel_rfl), trivial⟩ hk
  · cases ha
noncomputable def X83_7 : Code := atF Try.f83 [true, true, false, true, false, false, true, true, false, false, true, true, true, false, false]
theorem i83_7 : firstReg X83_7 = 7 := by kernel_rfl
def GL83_7_0 {β : Type} (A : Pr) (B : Pk) (l83_7_0 : (List R → List R → Int → Int → Option β) → Q0 β) (k0 : List R → List R → Int → Int → Option β) (x0 : List R) (x1 : Int) (x2 x3 : List R) (x4 : Int) (x5 : List R) (x6 x7 : Int) (x8 : List R) (x9 xa : Int) : Option β :=
    match (A.cm .lss xa x9) with
    | true => (match (A.ix xa (A.len x8)) with
      | some xb => (match (B.okC [(Sh.i .i64)] x8 xb 0) with
        | true => (match (A.cm .neq (B.ci x8 xb 0) x4) with
          | true => (match (A.ix x4 (A.len x3)) with
            | some xc => (match (B.okE [(Sh.i .i64)] false x3 xc) with
              | true => (match (A.ix (B.ci x8 xb 0) (A.len x3)) with
                | some xd => (match (B.okE [(Sh.i .i64)] false x3 xd) with
                  | true => (match (A.ix (B.ci x8 xb 0) (A.len x2)) with
                    | some xe => (match (B.okE [(Sh.i .i64)] false x2 xe) with
                      | true => (match (A.ix x4 (A.len x2)) with
                        | some xf => (match (B.okE [(Sh.i .i64)] false x2 xf) with
                          | true => (match (A.small (A.len (A.app x0 [(R.a [(R.i .i64 x1), (R.i .i64 (B.ci x8 xb 0)), (R.i .i64 (A.ar .sub .i64 (B.ci x3 xc 0) (B.ci x3 xd 0))), (R.i .i64 (A.ar .sub .i64 (B.ci x2 xe 0) (B.ci x2 xf 0)))])])) 32) with
                            | true => (l83_7_0 k0 (A.app x0 [(R.a [(R.i .i64 x1), (R.i .i64 (B.ci x8 xb 0)), (R.i .i64 (A.ar .sub .i64 (B.ci x3 xc 0) (B.ci x3 xd 0))), (R.i .i64 (A.ar .sub .i64 (B.ci x2 xe 0) (B.ci x2 xf 0)))])]) x1 x2 x3 (B.ci x8 xb 0) x5 x6 x7 x8 x9 (A.ar .add .i64 xa 1))
                            | false => none)
                          | false => none)
                        | none => none)
                      | false => none)
                    | none => none)
                  | false => none)
                | none => none)
              | false => none)
            | none => none)
          | false => (l83_7_0 k0 x0 x1 x2 x3 (B.ci x8 xb 0) x5 x6 x7 x8 x9 (A.ar .add .i64 xa 1)))
        | false => none)
      | none => none)
    | false => (k0 x0 x5 x6 x7)
def L83_7_0 {β : Type} (A : Pr) (B : Pk) (N : Nat) : Nat → (List R → List R → Int → Int → Option β) → Q0 β
  | 0, _, _, _, _, _, _, _, _, _, _, _, _ => none
  | n + 1, k0, x0, x1, x2, x3, x4, x5, x6, x7, x8, x9, xa =>
    GL83_7_0 A B (L83_7_0 A B N n) k0 x0 x1 x2 x3 x4 x5 x6 x7 x8 x9 xa
def P22 : List PT := [.us 3, (.own true 4), .us 5, (.r (.ro 2)), pI, pI, .us 47]
def S22 (x0 x1 : List R) (x2 x3 : Int) : List T := (T.u :: T.u :: T.u :: (T.own true 4 x0) :: T.u :: T.u :: T.u :: T.u :: T.u :: (T.r (R.ro 2 x1)) :: (tI x2) :: (tI x3) :: T.u :: T.u :: T.u :: T.u :: T.u :: T.u :: T.u :: T.u :: T.u :: T.u :: T.u :: T.u :: T.u :: T.u :: T.u :: T.u :: T.u :: T.u :: T.u :: T.u :: T.u :: T.u :: T.u :: T.u :: T.u :: T.u :: T.u :: T.u :: T.u :: T.u :: T.u :: T.u :: T.u :: T.u :: T.u :: T.u :: T.u :: T.u :: T.u :: T.u :: T.u :: T.u :: T.u :: T.u :: T.u :: T.u :: T.u :: [])
def P23 : List PT := [.us 3, (.own true 4), pI, (.bx [(.r (.ro 1)), (.r (.ro 1))]), pI, .us 2, (.r (.ro 2)), pI, pI, .us 5, (.own true 1), pI, pI, .us 39]
noncomputable def M83_7 {β : Type} (l83_7_0 : (List R → List R → Int → Int → Option β) → Q0 β) (s : List T) : Option ((Ex → List T → Option β) → Option β) :=
  match gTs P23 (clean ((Hn 83).lp 7).1 s) [] with
  | some [.l x0, .i x1, .l x2, .l x3, .i x4, .l x5, .i x6, .i x7, .l x8, .i x9, .i xa] => some fun kk => l83_7_0 (fun xb xc xd xe => kk (Ex.ex 2) (S22 xb xc xd xe)) x0 x1 x2 x3 x4 x5 x6 x7 x8 x9 xa
  | _ => none
theorem e83_7_0 {β : Type} (A : Pr) (B : Pk) (l83_7_0 : (List R → List R → Int → Int → Option β) → Q0 β) (x0 : List R) (x1 : Int) (x2 x3 : List R) (x4 : Int) (x5 : List R) (x6 x7 : Int) (x8 : List R) (x9 xa : Int) (kk : Ex → List T → Option β) :
    uTs P23 [.l x0, .i x1, .l x2, .l x3, .i x4, .l x5, .i x6, .i x7, .l x8, .i x9, .i xa] (fun s _ => evK (mkK Try.prog A B [] [] (Hn 83).pt []) X83_7 s (fun e s' => match e with
      | .nm => (match M83_7 l83_7_0 s' with | some h => h kk | none => none)
      | .ex m => kk (.ex m) (clean ((Hn 83).lp (firstReg X83_7)).2 s')
      | .rt => kk .rt (clean ((Hn 83).lp (firstReg X83_7)).2 s'))) = GL83_7_0 A B l83_7_0 (fun xb xc xd xe => kk (Ex.ex 2) (S22 xb xc xd xe)) x0 x1 x2 x3 x4 x5 x6 x7 x8 x9 xa := by kernel_rfl
theorem ol83_7 {β : Type} (N : Nat) : ∀ n, SndL (β := β) Try.prog Hn (Hn 83) X83_7 (M83_7 (L83_7_0 re rk N n))
  | 0 => by
    intro s h kk r ha hr
    unfold M83_7 at ha
    split at ha
    · cases ha; cases hr
    · cases ha
  | n + 1 => by
    have ih := ol83_7 (β := β) N n
    intro s h kk r ha hr
    unfold M83_7 at ha
    split at ha
    · rename_i hs
      cases ha
      have hk := via_pat hs ((e83_7_0 re rk (L83_7_0 re rk N n) _ _ _ _ _ _ _ _ _ _ _ kk).trans hr)
      exact round_ok (show SndAll Try.prog Hn [] from trivial) (spots := []) (by kernel_rfl) trivial ih (hd := clean ((Hn 83).lp 7).1 s) (by rw [i83_7]) hk
    · cases ha
noncomputable def X83_3 : Code := atF Try.f83 [true, true, false, true, false, false]
theorem i83_3 : firstReg X83_3 = 3 := by kernel_rfl
def GL83_3_0 {β : Type} (A : Pr) (B : Pk) (f107_0 : List R → List R → (List R → Option β) → Option β) (l83_7_0 : (List R → List R → Int → Int → Option β) → Q0 β) (l83_3_0 : (List R → Option β) → List R → List R → Int → Int → Option β) (k0 : List R → Option β) (x0 x1 : List R) (x2 x3 : Int) : Option β :=
    match (A.cm .lss x3 x2) with
    | true => (match (A.ix x3 (A.len x1)) with
      | some x4 => (match (B.okE [(Sh.sl 1 (Sh.i .i64)), (Sh.sl 1 (Sh.i .i64))] true x1 x4) with
        | true => (f107_0 (B.cl x1 x4 0) (B.cl x1 x4 1) (fun x5 =>
          l83_7_0 (fun x6 x7 x8 x9 =>
            l83_3_0 k0 x6 x7 x8 (A.ar .add .i64 x9 1)) x0 x3 (B.cl x1 x4 0) (B.cl x1 x4 1) 0 x1 x2 x3 x5 (A.on (A.len x5)) 0))
        | false => none)
      | none => none)
    | false => (k0 x0)
def L83_3_0 {β : Type} (A : Pr) (B : Pk) (N : Nat) : Nat → (List R → Option β) → List R → List R → Int → Int → Option β
  | 0, _, _, _, _, _ => none
  | n + 1, k0, x0, x1, x2, x3 =>
    GL83_3_0 A B (F107_0 A B N) (L83_7_0 A B N N) (L83_3_0 A B N n) k0 x0 x1 x2 x3
def P24 : List PT := [.us 3, (.own true 4), .us 55]
def S24 (x0 : List R) : List T := (T.u :: T.u :: T.u :: (T.own true 4 x0) :: T.u :: T.u :: T.u :: T.u :: T.u :: T.u :: T.u :: T.u :: T.u :: T.u :: T.u :: T.u :: T.u :: T.u :: T.u :: T.u :: T.u :: T.u :: T.u :: T.u :: T.u :: T.u :: T.u :: T.u :: T.u :: T.u :: T.u :: T.u :: T.u :: T.u :: T.u :: T.u :: T.u :: T.u :: T.u :: T.u :: T.u :: T.u :: T.u :: T.u :: T.u :: T.u :: T.u :: T.u :: T.u :: T.u :: T.u :: T.u :: T.u :: T.u :: T.u :: T.u :: T.u :: T.u :: T.u :: [])
noncomputable def M83_3 {β : Type} (l83_3_0 : (List R → Option β) → List R → List R → Int → Int → Option β) (s : List T) : Option ((Ex → List T → Option β) → Option β) :=
  match gTs P22 (clean ((Hn 83).lp 3).1 s) [] with
  | some [.l x0, .l x1, .i x2, .i x3] => some fun kk => l83_3_0 (fun x4 => kk (Ex.ex 0) (S24 x4)) x0 x1 x2 x3
  | _ => none
theorem e83_3_0 {β : Type} (A : Pr) (B : Pk) (f107_0 : List R → List R → (List R → Option β) → Option β) (l83_7_0 : (List R → List R → Int → Int → Option β) → Q0 β) (l83_3_0 : (List R → Option β) → List R → List R → Int → Int → Option β) (x0 x1 : List R) (x2 x3 : Int) (kk : Ex → List T → Option β) :
    uTs P22 [.l x0, .l x1, .i x2, .i x3] (fun s _ => evK (mkK Try.prog A B [(107, M107_0 f107_0)] [(7, M83_7 l83_7_0)] (Hn 83).pt []) X83_3 s (fun e s' => match e with
      | .nm => (match M83_3 l83_3_0 s' with | some h => h kk | none => none)
      | .ex m => kk (.ex m) (clean ((Hn 83).lp (firstReg X83_3)).2 s')
      | .rt => kk .rt (clean ((Hn 83).lp (firstReg X83_3)).2 s'))) = GL83_3_0 A B f107_0 l83_7_0 l83_3_0 (fun x4 => kk (Ex.ex 0) (S24 x4)) x0 x1 x2 x3 := by kernel_rfl
theorem ol83_3 {β : Type} (N : Nat) : ∀ n, SndL (β := β) Try.prog Hn (Hn 83) X83_3 (M83_3 (L83_3_0 re rk N n))
  | 0 => by
    intro s h kk r ha hr
    unfold M83_3 at ha
    split at ha
    · cases ha; cases hr
    · cases ha
  | n + 1 => by
    have ih := ol83_3 (β := β) N n
    intro s h kk r ha hr
    unfold M83_3 at ha
    split at ha
    · rename_i hs
      cases ha
      have hk := via_pat hs ((e83_3_0 re rk (F107_0 re rk N) (L83_7_0 re rk N N) (L83_3_0 re rk N n) _ _ _ _ kk).trans hr)
      exact round_ok (show SndAll Try.prog Hn [(107, M107_0 (F107_0 re rk N))] from ⟨o107_0 N, trivial⟩) (spots := [.lp X83_7]) (by kernel_rfl) ⟨cut_lp (id := 7) i83_7 (ol83_7 N N) (fun s kk => by kernel_rfl), trivial⟩ ih (hd := clean ((Hn 83).lp 3).1 s) (by rw [i83_3]) hk
    · cases ha
def G109_0 {β : Type} (A : Pr) (B : Pk) (f110_0 : Int → Int → Int → Int → (Int → Option β) → Option β) (x0 x1 x2 x3 x4 x5 x6 x7 : Int) (k0 : Bool → Option β) : Option β :=
    f110_0 x2 x3 x6 x7 (fun x8 =>
    k0 (A.cm .gtr x8 0))
def F109_0 {β : Type} (A : Pr) (B : Pk) (N : Nat) (x0 x1 x2 x3 x4 x5 x6 x7 : Int) (k0 : Bool → Option β) : Option β :=
  G109_0 A B (F110_0 A B N) x0 x1 x2 x3 x4 x5 x6 x7 k0
def P25 : List PT := [(.r (.a [(.i .i64), (.i .i64), (.i .i64), (.i .i64)])), (.r (.a [(.i .i64), (.i .i64), (.i .i64), (.i .i64)]))]
def M109_0 {β : Type} (f109_0 : Int → Int → Int → Int → Int → Int → Int → Int → (Bool → Option β) → Option β) (a : List T) : Option ((T → List (List T) → Option β) → Option β) :=
  match gTs P25 a [] with
  | some [.i x0, .i x1, .i x2, .i x3, .i x4, .i x5, .i x6, .i x7] => some fun kk => f109_0 x0 x1 x2 x3 x4 x5 x6 x7 (fun x8 => kk (tB x8) [])
  | _ => none
theorem e109_0 {β : Type} (A : Pr) (B : Pk) (f110_0 : Int → Int → Int → Int → (Int → Option β) → Option β) (x0 x1 x2 x3 x4 x5 x6 x7 : Int) (kk : T → List (List T) → Option β) :
    uTs P25 [.i x0, .i x1, .i x2, .i x3, .i x4, .i x5, .i x6, .i x7] (fun a _ => bodyK (mkK Try.prog A B [(110, M110_0 f110_0)] [] (Hn 109).pt []) Try.f109 a kk) = G109_0 A B f110_0 x0 x1 x2 x3 x4 x5 x6 x7 (fun x8 => kk (tB x8) []) := by kernel_rfl
theorem o109_0 {β : Type} (N : Nat) : Snd (β := β) Try.prog Hn 109 (M109_0 (F109_0 re rk N)) := by
  intro a h kk r ha hr
  unfold M109_0 at ha
  split at ha
  · rename_i hs
    cases ha
    have hk := via_pat hs ((e109_0 re rk (F110_0 re rk N) _ _ _ _ _ _ _ _ kk).trans hr)
    exact fn_ok (f := 109) (fn := Try.f109) (H := Hn) (by kernel_rfl) (show SndAll Try.prog Hn [(110, M110_0 (F110_0 re rk N))] from ⟨o110_0 N, trivial⟩) (spots := []) (by kernel_rfl) trivial hk
  · cases ha
noncomputable def X108_5 : Code := atF Try.f108 [true, true, true, true, false, false, false]
theorem i108_5 : firstReg X108_5 = 5 := by kernel_rfl
def GL108_5_0 {β : Type} (A : Pr) (B : Pk) (f109_0 : Int → Int → Int → Int → Int → Int → Int → Int → (Bool → Option β) → Option β) (l108_5_0 : (List R → List R → List R → Option β) → List R → List R → List R → Option β) (k0 : List R → List R → List R → Option β) (x0 x1 x2 : List R) : Option β :=
    match (A.cm .gtr (A.on (A.len x0)) 0) with
    | true => (match (A.cm .gtr (A.on (A.len x1)) 0) with
      | true => (match (A.ix 0 (A.len x1)) with
        | some x3 => (match (B.okE [(Sh.i .i64), (Sh.i .i64), (Sh.i .i64), (Sh.i .i64)] true x1 x3) with
          | true => (match (A.ix 0 (A.len x0)) with
            | some x4 => (match (B.okE [(Sh.i .i64), (Sh.i .i64), (Sh.i .i64), (Sh.i .i64)] true x0 x4) with
              | true => (f109_0 (B.ci x1 x3 0) (B.ci x1 x3 1) (B.ci x1 x3 2) (B.ci x1 x3 3) (B.ci x0 x4 0) (B.ci x0 x4 1) (B.ci x0 x4 2) (B.ci x0 x4 3) (fun x5 =>
                match x5 with
                  | true => (match (A.ix 0 (A.len x1)) with
                    | some x6 => (match (B.okE [(Sh.i .i64), (Sh.i .i64), (Sh.i .i64), (Sh.i .i64)] true x1 x6) with
                      | true => (match (A.small (A.len (A.app x2 [(R.a [(R.i .i64 (B.ci x1 x6 0)), (R.i .i64 (B.ci x1 x6 1)), (R.i .i64 (B.ci x1 x6 2)), (R.i .i64 (B.ci x1 x6 3))])])) 32) with
                        | true => (match (A.sx 1 (A.len x1)) with
                          | some x7 => (l108_5_0 k0 x0 (A.seg x1 x7 (A.sub (A.len x1) x7)) (A.app x2 [(R.a [(R.i .i64 (B.ci x1 x6 0)), (R.i .i64 (B.ci x1 x6 1)), (R.i .i64 (B.ci x1 x6 2)), (R.i .i64 (B.ci x1 x6 3))])]))
                          | none => none)
                        | false => none)
                      | false => none)
                    | none => none)
                  | false => (match (A.ix 0 (A.len x0)) with
                    | some x8 => (match (B.okE [(Sh.i .i64), (Sh.i .i64), (Sh.i .i64), (Sh.i .i64)] true x0 x8) with
                      | true => (match (A.small (A.len (A.app x2 [(R.a [(R.i .i64 (B.ci x0 x8 0)), (R.i .i64 (B.ci x0 x8 1)), (R.i .i64 (B.ci x0 x8 2)), (R.i .i64 (B.ci x0 x8 3))])])) 32) with
                        | true => (match (A.sx 1 (A.len x0)) with
                          | some x9 => (l108_5_0 k0 (A.seg x0 x9 (A.sub (A.len x0) x9)) x1 (A.app x2 [(R.a [(R.i .i64 (B.ci x0 x8 0)), (R.i .i64 (B.ci x0 x8 1)), (R.i .i64 (B.ci x0 x8 2)), (R.i .i64 (B.ci x0 x8 3))])]))
                          | none => none)
                        | false => none)
                      | false => none)
                    | none => none)))
              | false => none)
            | none => none)
          | false => none)
        | none => none)
      | false => (k0 x0 x1 x2))
    | false => (k0 x0 x1 x2)
def L108_5_0 {β : Type} (A : Pr) (B : Pk) (N : Nat) : Nat → (List R → List R → List R → Option β) → List R → List R → List R → Option β
  | 0, _, _, _, _ => none
  | n + 1, k0, x0, x1, x2 =>
    GL108_5_0 A B (F109_0 A B N) (L108_5_0 A B N n) k0 x0 x1 x2
def P26 : List PT := [.us 1, (.f 109 []), .us 3, (.r (.ro 4)), (.r (.ro 4)), (.own true 4), .us 58]
def S26 (x0 x1 x2 : List R) : List T := (T.u :: (T.f 109 []) :: T.u :: T.u :: T.u :: (T.r (R.ro 4 x0)) :: (T.r (R.ro 4 x1)) :: (T.own true 4 x2) :: T.u :: T.u :: T.u :: T.u :: T.u :: T.u :: T.u :: T.u :: T.u :: T.u :: T.u :: T.u :: T.u :: T.u :: T.u :: T.u :: T.u :: T.u :: T.u :: T.u :: T.u :: T.u :: T.u :: T.u :: T.u :: T.u :: T.u :: T.u :: T.u :: T.u :: T.u :: T.u :: T.u :: T.u :: T.u :: T.u :: T.u :: T.u :: T.u :: T.u :: T.u :: T.u :: T.u :: T.u :: T.u :: T.u :: T.u :: T.u :: T.u :: T.u :: T.u :: T.u :: T.u :: T.u :: T.u :: T.u :: T.u :: T.u :: [])
noncomputable def M108_5 {β : Type} (l108_5_0 : (List R → List R → List R → Option β) → List R → List R → List R → Option β) (s : List T) : Option ((Ex → List T → Option β) → Option β) :=
  match gTs P26 (clean ((Hn 108).lp 5).1 s) [] with
  | some [.l x0, .l x1, .l x2] => some fun kk => l108_5_0 (fun x3 x4 x5 => kk (Ex.ex 0) (S26 x3 x4 x5)) x0 x1 x2
  | _ => none
theorem e108_5_0 {β : Type} (A : Pr) (B : Pk) (f109_0 : Int → Int → Int → Int → Int → Int → Int → Int → (Bool → Option β) → Option β) (l108_5_0 : (List R → List R → List R → Option β) → List R → List R → List R → Option β) (x0 x1 x2 : List R) (kk : Ex → List T → Option β) :
    uTs P26 [.l x0, .l x1, .l x2] (fun s _ => evK (mkK Try.prog A B [(109, M109_0 f109_0)] [] (Hn 108).pt []) X108_5 s (fun e s' => match e with
      | .nm => (match M108_5 l108_5_0 s' with | some h => h kk | none => none)
      | .ex m => kk (.ex m) (clean ((Hn 108).lp (firstReg X108_5)).2 s')
      | .rt => kk .rt (clean ((Hn 108).lp (firstReg X108_5)).2 s'))) = GL108_5_0 A B f109_0 l108_5_0 (fun x3 x4 x5 => kk (Ex.ex 0) (S26 x3 x4 x5)) x0 x1 x2 := by kernel_rfl
theorem ol108_5 {β : Type} (N : Nat) : ∀ n, SndL (β := β) Try.prog Hn (Hn 108) X108_5 (M108_5 (L108_5_0 re rk N n))
  | 0 => by
    intro s h kk r ha hr
    unfold M108_5 at ha
    split at ha
    · cases ha; cases hr
    · cases ha
  | n + 1 => by
    have ih := ol108_5 (β := β) N n
    intro s h kk r ha hr
    unfold M108_5 at ha
    split at ha
    · rename_i hs
      cases ha
      have hk := via_pat hs ((e108_5_0 re rk (F109_0 re rk N) (L108_5_0 re rk N n) _ _ _ kk).trans hr)
      exact round_ok (show SndAll Try.prog Hn [(109, M109_0 (F109_0 re rk N))] from ⟨o109_0 N, trivial⟩) (spots := []) (by kernel_rfl) trivial ih (hd := clean ((Hn 108).lp 5).1 s) (by rw [i108_5]) hk
    · cases ha
def GL108_5t1_0 {β : Type} (A : Pr) (B : Pk) (f109_0 : Int → Int → Int → Int → Int → Int → Int → Int → (Bool → Option β) → Option β) (l108_5t1_0 : (List R → List R → List R → Option β) → (List R → List R → List R → Option β) → List R → List R → List R → Option β) (l108_5t1_1 : (List R → List R → List R → Option β) → (List R → List R → List R → Option β) → List R → List R → List R → Option β) (k0 : List R → List R → List R → Option β) (k1 : List R → List R → List R → Option β) (x0 x1 x2 : List R) : Option β :=
    match (A.cm .gtr (A.on (A.len x0)) 0) with
    | true => (match (A.cm .gtr (A.on (A.len x1)) 0) with
      | true => (match (A.ix 0 (A.len x1)) with
        | some x3 => (match (B.okC [(Sh.i .i64), (Sh.i .i64), (Sh.i .i64), (Sh.i .i64)] x1 x3 0) with
          | true => (match (A.ix 0 (A.len x0)) with
            | some x4 => (match (B.okE [(Sh.i .i64), (Sh.i .i64), (Sh.i .i64), (Sh.i .i64)] true x0 x4) with
              | true => (f109_0 (B.ci x1 x3 0) (B.ci x1 x3 1) (B.ci x1 x3 2) (B.ci x1 x3 3) (B.ci x0 x4 0) (B.ci x0 x4 1) (B.ci x0 x4 2) (B.ci x0 x4 3) (fun x5 =>
                match x5 with
                  | true => (match (A.ix 0 (A.len x1)) with
                    | some x6 => (match (B.okC [(Sh.i .i64), (Sh.i .i64), (Sh.i .i64), (Sh.i .i64)] x1 x6 0) with
                      | true => (match (A.small (A.len (A.app x2 [(R.a [(R.i .i64 (B.ci x1 x6 0)), (R.i .i64 (B.ci x1 x6 1)), (R.i .i64 (B.ci x1 x6 2)), (R.i .i64 (B.ci x1 x6 3))])])) 32) with
                        | true => (match (A.sx 1 (A.len x1)) with
                          | some x7 => (l108_5t1_1 k0 k1 x0 (A.seg x1 x7 (A.sub (A.len x1) x7)) (A.app x2 [(R.a [(R.i .i64 (B.ci x1 x6 0)), (R.i .i64 (B.ci x1 x6 1)), (R.i .i64 (B.ci x1 x6 2)), (R.i .i64 (B.ci x1 x6 3))])]))
                          | none => none)
                        | false => none)
                      | false => none)
                    | none => none)
                  | false => (match (A.ix 0 (A.len x0)) with
                    | some x8 => (match (B.okE [(Sh.i .i64), (Sh.i .i64), (Sh.i .i64), (Sh.i .i64)] true x0 x8) with
                      | true => (match (A.small (A.len (A.app x2 [(R.a [(R.i .i64 (B.ci x0 x8 0)), (R.i .i64 (B.ci x0 x8 1)), (R.i .i64 (B.ci x0 x8 2)), (R.i .i64 (B.ci x0 x8 3))])])) 32) with
                        | true => (match (A.sx 1 (A.len x0)) with
                          | some x9 => (l108_5t1_0 k0 k1 (A.seg x0 x9 (A.sub (A.len x0) x9)) x1 (A.app x2 [(R.a [(R.i .i64 (B.ci x0 x8 0)), (R.i .i64 (B.ci x0 x8 1)), (R.i .i64 (B.ci x0 x8 2)), (R.i .i64 (B.ci x0 x8 3))])]))
                          | none => none)
                        | false => none)
                      | false => none)
                    | none => none)))
              | false => none)
            | none => none)
          | false => none)
        | none => none)
      | false => (k0 x0 x1 x2))
    | false => (k0 x0 x1 x2)
def GL108_5t1_1 {β : Type} (A : Pr) (B : Pk) (f109_0 : Int → Int → Int → Int → Int → Int → Int → Int → (Bool → Option β) → Option β) (l108_5t1_0 : (List R → List R → List R → Option β) → (List R → List R → List R → Option β) → List R → List R → List R → Option β) (l108_5t1_1 : (List R → List R → List R → Option β) → (List R → List R → List R → Option β) → List R → List R → List R → Option β) (k0 : List R → List R → List R → Option β) (k1 : List R → List R → List R → Option β) (x0 x1 x2 : List R) : Option β :=
    match (A.cm .gtr (A.on (A.len x0)) 0) with
    | true => (match (A.cm .gtr (A.on (A.len x1)) 0) with
      | true => (match (A.ix 0 (A.len x1)) with
        | some x3 => (match (B.okE [(Sh.i .i64), (Sh.i .i64), (Sh.i .i64), (Sh.i .i64)] true x1 x3) with
          | true => (match (A.ix 0 (A.len x0)) with
            | some x4 => (match (B.okE [(Sh.i .i64), (Sh.i .i64), (Sh.i .i64), (Sh.i .i64)] true x0 x4) with
              | true => (f109_0 (B.ci x1 x3 0) (B.ci x1 x3 1) (B.ci x1 x3 2) (B.ci x1 x3 3) (B.ci x0 x4 0) (B.ci x0 x4 1) (B.ci x0 x4 2) (B.ci x0 x4 3) (fun x5 =>
                match x5 with
                  | true => (match (A.ix 0 (A.len x1)) with
                    | some x6 => (match (B.okE [(Sh.i .i64), (Sh.i .i64), (Sh.i .i64), (Sh.i .i64)] true x1 x6) with
                      | true => (match (A.small (A.len (A.app x2 [(R.a [(R.i .i64 (B.ci x1 x6 0)), (R.i .i64 (B.ci x1 x6 1)), (R.i .i64 (B.ci x1 x6 2)), (R.i .i64 (B.ci x1 x6 3))])])) 32) with
                        | true => (match (A.sx 1 (A.len x1)) with
                          | some x7 => (l108_5t1_1 k0 k1 x0 (A.seg x1 x7 (A.sub (A.len x1) x7)) (A.app x2 [(R.a [(R.i .i64 (B.ci x1 x6 0)), (R.i .i64 (B.ci x1 x6 1)), (R.i .i64 (B.ci x1 x6 2)), (R.i .i64 (B.ci x1 x6 3))])]))
                          | none => none)
                        | false => none)
                      | false => none)
                    | none => none)
                  | false => (match (A.ix 0 (A.len x0)) with
                    | some x8 => (match (B.okE [(Sh.i .i64), (Sh.i .i64), (Sh.i .i64), (Sh.i .i64)] true x0 x8) with
                      | true => (match (A.small (A.len (A.app x2 [(R.a [(R.i .i64 (B.ci x0 x8 0)), (R.i .i64 (B.ci x0 x8 1)), (R.i .i64 (B.ci x0 x8 2)), (R.i .i64 (B.ci x0 x8 3))])])) 32) with
                        | true => (match (A.sx 1 (A.len x0)) with
                          | some x9 => (l108_5t1_1 k0 k1 (A.seg x0 x9 (A.sub (A.len x0) x9)) x1 (A.app x2 [(R.a [(R.i .i64 (B.ci x0 x8 0)), (R.i .i64 (B.ci x0 x8 1)), (R.i .i64 (B.ci x0 x8 2)), (R.i .i64 (B.ci x0 x8 3))])]))
                          | none => none)
                        | false => none)
                      | false => none)
                    | none => none)))
              | false => none)
            | none => none)
          | false => none)
        | none => none)
      | false => (k1 x0 x1 x2))
    | false => (k1 x0 x1 x2)
mutual
def L108_5t1_0 {β : Type} (A : Pr) (B : Pk) (N : Nat) : Nat → (List R → List R → List R → Option β) → (List R → List R → List R → Option β) → List R → List R → List R → Option β
  | 0, _, _, _, _, _ => none
  | n + 1, k0, k1, x0, x1, x2 =>
    GL108_5t1_0 A B (F109_0 A B N) (L108_5t1_0 A B N n) (L108_5t1_1 A B N n) k0 k1 x0 x1 x2
def L108_5t1_1 {β : Type} (A : Pr) (B : Pk) (N : Nat) : Nat → (List R → List R → List R → Option β) → (List R → List R → List R → Option β) → List R → List R → List R → Option β
  | 0, _, _, _, _, _ => none
  | n + 1, k0, k1, x0, x1, x2 =>
    GL108_5t1_1 A B (F109_0 A B N) (L108_5t1_0 A B N n) (L108_5t1_1 A B N n) k0 k1 x0 x1 x2
end
def P27 : List PT := [.us 1, (.f 109 []), .us 3, (.r (.ro 4)), (.own true 4), (.own true 4), .us 58]
def S27 (x0 x1 x2 : List R) : List T := (T.u :: (T.f 109 []) :: T.u :: T.u :: T.u :: (T.r (R.ro 4 x0)) :: (T.own true 4 x1) :: (T.own true 4 x2) :: T.u :: T.u :: T.u :: T.u :: T.u :: T.u :: T.u :: T.u :: T.u :: T.u :: T.u :: T.u :: T.u :: T.u :: T.u :: T.u :: T.u :: T.u :: T.u :: T.u :: T.u :: T.u :: T.u :: T.u :: T.u :: T.u :: T.u :: T.u :: T.u :: T.u :: T.u :: T.u :: T.u :: T.u :: T.u :: T.u :: T.u :: T.u :: T.u :: T.u :: T.u :: T.u :: T.u :: T.u :: T.u :: T.u :: T.u :: T.u :: T.u :: T.u :: T.u :: T.u :: T.u :: T.u :: T.u :: T.u :: T.u :: T.u :: [])
noncomputable def M108_5t1 {β : Type} (l108_5t1_0 : (List R → List R → List R → Option β) → (List R → List R → List R → Option β) → List R → List R → List R → Option β) (l108_5t1_1 : (List R → List R → List R → Option β) → (List R → List R → List R → Option β) → List R → List R → List R → Option β) (s : List T) : Option ((Ex → List T → Option β) → Option β) :=
  match gTs P27 (clean ((Hn 108).lp 5).1 s) [] with
  | some [.l x0, .l x1, .l x2] => some fun kk => l108_5t1_0 (fun x3 x4 x5 => kk (Ex.ex 0) (S27 x3 x4 x5)) (fun x6 x7 x8 => kk (Ex.ex 0) (S26 x6 x7 x8)) x0 x1 x2
  | _ => (match gTs P26 (clean ((Hn 108).lp 5).1 s) [] with
  | some [.l x9, .l xa, .l xb] => some fun kk => l108_5t1_1 (fun x3 x4 x5 => kk (Ex.ex 0) (S27 x3 x4 x5)) (fun x6 x7 x8 => kk (Ex.ex 0) (S26 x6 x7 x8)) x9 xa xb
  | _ => none)
theorem e108_5t1_0 {β : Type} (A : Pr) (B : Pk) (f109_0 : Int → Int → Int → Int → Int → Int → Int → Int → (Bool → Option β) → Option β) (l108_5t1_0 : (List R → List R → List R → Option β) → (List R → List R → List R → Option β) → List R → List R → List R → Option β) (l108_5t1_1 : (List R → List R → List R → Option β) → (List R → List R → List R → Option β) → List R → List R → List R → Option β) (x0 x1 x2 : List R) (kk : Ex → List T → Option β) :
    uTs P27 [.l x0, .l x1, .l x2] (fun s _ => evK (mkK Try.prog A B [(109, M109_0 f109_0)] [] (Hn 108).pt []) X108_5 s (fun e s' => match e with
      | .nm => (match M108_5t1 l108_5t1_0 l108_5t1_1 s' with | some h => h kk | none => none)
      | .ex m => kk (.ex m) (clean ((Hn 108).lp (firstReg X108_5)).2 s')
      | .rt => kk .rt (clean ((Hn 108).lp (firstReg X108_5)).2 s'))) = GL108_5t1_0 A B f109_0 l108_5t1_0 l108_5t1_1 (fun x3 x4 x5 => kk (Ex.ex 0) (S27 x3 x4 x5)) (fun x6 x7 x8 => kk (Ex.ex 0) (S26 x6 x7 x8)) x0 x1 x2 := by kernel_rfl
theorem e108_5t1_1 {β : Type} (A : Pr) (B : Pk) (f109_0 : Int → Int → Int → Int → Int → Int → Int → Int → (Bool → Option β) → Option β) (l108_5t1_0 : (List R → List R → List R → Option β) → (List R → List R → List R → Option β) → List R → List R → List R → Option β) (l108_5t1_1 : (List R → List R → List R → Option β) → (List R → List R → List R → Option β) → List R → List R → List R → Option β) (x0 x1 x2 : List R) (kk : Ex → List T → Option β) :
    uTs P26 [.l x0, .l x1, .l x2] (fun s _ => evK (mkK Try.prog A B [(109, M109_0 f109_0)] [] (Hn 108).pt []) X108_5 s (fun e s' => match e with
      | .nm => (match M108_5t1 l108_5t1_0 l108_5t1_1 s' with | some h => h kk | none => none)
      | .ex m => kk (.ex m) (clean ((Hn 108).lp (firstReg X108_5)).2 s')
      | .rt => kk .rt (clean ((Hn 108).lp (firstReg X108_5)).2 s'))) = GL108_5t1_1 A B f109_0 l108_5t1_0 l108_5t1_1 (fun x3 x4 x5 => kk (Ex.ex 0) (S27 x3 x4 x5)) (fun x6 x7 x8 => kk (Ex.ex 0) (S26 x6 x7 x8)) x0 x1 x2 := by kernel_rfl
theorem ol108_5t1 {β : Type} (N : Nat) : ∀ n, SndL (β := β) Try.prog Hn (Hn 108) X108_5 (M108_5t1 (L108_5t1_0 re rk N n) (L108_5t1_1 re rk N n))
  | 0 => by
    intro s h kk r ha hr
    unfold M108_5t1 at ha
    split at ha
    · cases ha; cases hr
    · split at ha
      · cases ha; cases hr
      · cases ha
  | n + 1 => by
    have ih := ol108_5t1 (β := β) N n
    intro s h kk r ha hr
    unfold M108_5t1 at ha
    split at ha
    · rename_i hs
      cases ha
      have hk := via_pat hs ((e108_5t1_0 re rk (F109_0 re rk N) (L108_5t1_0 re rk N n) (L108_5t1_1 re rk N n) _ _ _ kk).trans hr)
      exact round_ok (show SndAll Try.prog Hn [(109, M109_0 (F109_0 re rk N))] from ⟨o109_0 N, trivial⟩) (spots := []) (by kernel_rfl) trivial ih (hd := clean ((Hn 108).lp 5).1 s) (by rw [i108_5]) hk
    · split at ha
      · rename_i hs
        cases ha
        have hk := via_pat hs ((e108_5t1_1 re rk (F109_0 re rk N) (L108_5t1_0 re rk N n) (L108_5t1_1 re rk N n) _ _ _ kk).trans hr)
        exact round_ok (show SndAll Try.prog Hn [(109, M109_0 (F109_0 re rk N))] from ⟨o109_0 N, trivial⟩) (spots := []) (by kernel_rfl) trivial ih (hd := clean ((Hn 108).lp 5).1 s) (by rw [i108_5]) hk
      · cases ha
def GL108_5t2_0 {β : Type} (A : Pr) (B : Pk) (f109_0 : Int → Int → Int → Int → Int → Int → Int → Int → (Bool → Option β) → Option β) (l108_5t2_0 : (List R → List R → List R → Option β) → (List R → List R → List R → Option β) → List R → List R → List R → Option β) (l108_5t2_1 : (List R → List R → List R → Option β) → (List R → List R → List R → Option β) → List R → List R → List R → Option β) (k0 : List R → List R → List R → Option β) (k1 : List R → List R → List R → Option β) (x0 x1 x2 : List R) : Option β :=
    match (A.cm .gtr (A.on (A.len x0)) 0) with
    | true => (match (A.cm .gtr (A.on (A.len x1)) 0) with
      | true => (match (A.ix 0 (A.len x1)) with
        | some x3 => (match (B.okE [(Sh.i .i64), (Sh.i .i64), (Sh.i .i64), (Sh.i .i64)] true x1 x3) with
          | true => (match (A.ix 0 (A.len x0)) with
            | some x4 => (match (B.okC [(Sh.i .i64), (Sh.i .i64), (Sh.i .i64), (Sh.i .i64)] x0 x4 0) with
              | true => (f109_0 (B.ci x1 x3 0) (B.ci x1 x3 1) (B.ci x1 x3 2) (B.ci x1 x3 3) (B.ci x0 x4 0) (B.ci x0 x4 1) (B.ci x0 x4 2) (B.ci x0 x4 3) (fun x5 =>
                match x5 with
                  | true => (match (A.ix 0 (A.len x1)) with
                    | some x6 => (match (B.okE [(Sh.i .i64), (Sh.i .i64), (Sh.i .i64), (Sh.i .i64)] true x1 x6) with
                      | true => (match (A.small (A.len (A.app x2 [(R.a [(R.i .i64 (B.ci x1 x6 0)), (R.i .i64 (B.ci x1 x6 1)), (R.i .i64 (B.ci x1 x6 2)), (R.i .i64 (B.ci x1 x6 3))])])) 32) with
                        | true => (match (A.sx 1 (A.len x1)) with
                          | some x7 => (l108_5t2_0 k0 k1 x0 (A.seg x1 x7 (A.sub (A.len x1) x7)) (A.app x2 [(R.a [(R.i .i64 (B.ci x1 x6 0)), (R.i .i64 (B.ci x1 x6 1)), (R.i .i64 (B.ci x1 x6 2)), (R.i .i64 (B.ci x1 x6 3))])]))
                          | none => none)
                        | false => none)
                      | false => none)
                    | none => none)
                  | false => (match (A.ix 0 (A.len x0)) with
                    | some x8 => (match (B.okC [(Sh.i .i64), (Sh.i .i64), (Sh.i .i64), (Sh.i .i64)] x0 x8 0) with
                      | true => (match (A.small (A.len (A.app x2 [(R.a [(R.i .i64 (B.ci x0 x8 0)), (R.i .i64 (B.ci x0 x8 1)), (R.i .i64 (B.ci x0 x8 2)), (R.i .i64 (B.ci x0 x8 3))])])) 32) with
                        | true => (match (A.sx 1 (A.len x0)) with
                          | some x9 => (l108_5t2_1 k0 k1 (A.seg x0 x9 (A.sub (A.len x0) x9)) x1 (A.app x2 [(R.a [(R.i .i64 (B.ci x0 x8 0)), (R.i .i64 (B.ci x0 x8 1)), (R.i .i64 (B.ci x0 x8 2)), (R.i .i64 (B.ci x0 x8 3))])]))
                          | none => none)
                        | false => none)
                      | false => none)
                    | none => none)))
              | false => none)
            | none => none)
          | false => none)
        | none => none)
      | false => (k0 x0 x1 x2))
    | false => (k0 x0 x1 x2)
def GL108_5t2_1 {β : Type} (A : Pr) (B : Pk) (f109_0 : Int → Int → Int → Int → Int → Int → Int → Int → (Bool → Option β) → Option β) (l108_5t2_0 : (List R → List R → List R → Option β) → (List R → List R → List R → Option β) → List R → List R → List R → Option β) (l108_5t2_1 : (List R → List R → List R → Option β) → (List R → List R → List R → Option β) → List R → List R → List R → Option β) (k0 : List R → List R → List R → Option β) (k1 : List R → List R → List R → Option β) (x0 x1 x2 : List R) : Option β :=
    match (A.cm .gtr (A.on (A.len x0)) 0) with
    | true => (match (A.cm .gtr (A.on (A.len x1)) 0) with
      | true => (match (A.ix 0 (A.len x1)) with
        | some x3 => (match (B.okE [(Sh.i .i64), (Sh.i .i64), (Sh.i .i64), (Sh.i .i64)] true x1 x3) with
          | true => (match (A.ix 0 (A.len x0)) with
            | some x4 => (match (B.okE [(Sh.i .i64), (Sh.i .i64), (Sh.i .i64), (Sh.i .i64)] true x0 x4) with
              | true => (f109_0 (B.ci x1 x3 0) (B.ci x1 x3 1) (B.ci x1 x3 2) (B.ci x1 x3 3) (B.ci x0 x4 0) (B.ci x0 x4 1) (B.ci x0 x4 2) (B.ci x0 x4 3) (fun x5 =>
                match x5 with
                  | true => (match (A.ix 0 (A.len x1)) with
                    | some x6 => (match (B.okE [(Sh.i .i64), (Sh.i .i64), (Sh.i .i64), (Sh.i .i64)] true x1 x6) with
                      | true => (match (A.small (A.len (A.app x2 [(R.a [(R.i .i64 (B.ci x1 x6 0)), (R.i .i64 (B.ci x1 x6 1)), (R.i .i64 (B.ci x1 x6 2)), (R.i .i64 (B.ci x1 x6 3))])])) 32) with
                        | true => (match (A.sx 1 (A.len x1)) with
                          | some x7 => (l108_5t2_1 k0 k1 x0 (A.seg x1 x7 (A.sub (A.len x1) x7)) (A.app x2 [(R.a [(R.i .i64 (B.ci x1 x6 0)), (R.i .i64 (B.ci x1 x6 1)), (R.i .i64 (B.ci x1 x6 2)), (R.i .i64 (B.ci x1 x6 3))])]))
                          | none => none)
                        | false => none)
                      | false => none)
                    | none => none)
                  | false => (match (A.ix 0 (A.len x0)) with
                    | some x8 => (match (B.okE [(Sh.i .i64), (Sh.i .i64), (Sh.i .i64), (Sh.i .i64)] true x0 x8) with
                      | true => (match (A.small (A.len (A.app x2 [(R.a [(R.i .i64 (B.ci x0 x8 0)), (R.i .i64 (B.ci x0 x8 1)), (R.i .i64 (B.ci x0 x8 2)), (R.i .i64 (B.ci x0 x8 3))])])) 32) with
                        | true => (match (A.sx 1 (A.len x0)) with
                          | some x9 => (l108_5t2_1 k0 k1 (A.seg x0 x9 (A.sub (A.len x0) x9)) x1 (A.app x2 [(R.a [(R.i .i64 (B.ci x0 x8 0)), (R.i .i64 (B.ci x0 x8 1)), (R.i .i64 (B.ci x0 x8 2)), (R.i .i64 (B.ci x0 x8 3))])]))
                          | none => none)
                        | false => none)
                      | false => none)
                    | none => none)))
              | false => none)
            | none => none)
          | false => none)
        | none => none)
      | false => (k1 x0 x1 x2))
    | false => (k1 x0 x1 x2)
mutual
def L108_5t2_0 {β : Type} (A : Pr) (B : Pk) (N : Nat) : Nat → (List R → List R → List R → Option β) → (List R → List R → List R → Option β) → List R → List R → List R → Option β
  | 0, _, _, _, _, _ => none
  | n + 1, k0, k1, x0, x1, x2 =>
    GL108_5t2_0 A B (F109_0 A B N) (L108_5t2_0 A B N n) (L108_5t2_1 A B N n) k0 k1 x0 x1 x2
def L108_5t2_1 {β : Type} (A : Pr) (B : Pk) (N : Nat) : Nat → (List R → List R → List R → Option β) → (List R → List R → List R → Option β) → List R → List R → List R → Option β
  | 0, _, _, _, _, _ => none
  | n + 1, k0, k1, x0, x1, x2 =>
    GL108_5t2_1 A B (F109_0 A B N) (L108_5t2_0 A B N n) (L108_5t2_1 A B N n) k0 k1 x0 x1 x2
end
def P28 : List PT := [.us 1, (.f 109 []), .us 3, (.own true 4), (.r (.ro 4)), (.own true 4), .us 58]
def S28 (x0 x1 x2 : List R) : List T := (T.u :: (T.f 109 []) :: T.u :: T.u :: T.u :: (T.own true 4 x0) :: (T.r (R.ro 4 x1)) :: (T.own true 4 x2) :: T.u :: T.u :: T.u :: T.u :: T.u :: T.u :: T.u :: T.u :: T.u :: T.u :: T.u :: T.u :: T.u :: T.u :: T.u :: T.u :: T.u :: T.u :: T.u :: T.u :: T.u :: T.u :: T.u :: T.u :: T.u :: T.u :: T.u :: T.u :: T.u :: T.u :: T.u :: T.u :: T.u :: T.u :: T.u :: T.u :: T.u :: T.u :: T.u :: T.u :: T.u :: T.u :: T.u :: T.u :: T.u :: T.u :: T.u :: T.u :: T.u :: T.u :: T.u :: T.u :: T.u :: T.u :: T.u :: T.u :: T.u :: T.u :: [])
noncomputable def M108_5t2 {β : Type} (l108_5t2_0 : (List R → List R → List R → Option β) → (List R → List R → List R → Option β) → List R → List R → List R → Option β) (l108_5t2_1 : (List R → List R → List R → Option β) → (List R → List R → List R → Option β) → List R → List R → List R → Option β) (s : List T) : Option ((Ex → List T → Option β) → Option β) :=
  match gTs P28 (clean ((Hn 108).lp 5).1 s) [] with
  | some [.l x0, .l x1, .l x2] => some fun kk => l108_5t2_0 (fun x3 x4 x5 => kk (Ex.ex 0) (S28 x3 x4 x5)) (fun x6 x7 x8 => kk (Ex.ex 0) (S26 x6 x7 x8)) x0 x1 x2
  | _ => (match gTs P26 (clean ((Hn 108).lp 5).1 s) [] with
  | some [.l x9, .l xa, .l xb] => some fun kk => l108_5t2_1 (fun x3 x4 x5 => kk (Ex.ex 0) (S28 x3 x4 x5)) (fun x6 x7 x8 => kk (Ex.ex 0) (S26 x6 x7 x8)) x9 xa xb
  | _ => none)
theorem e108_5t2_0 {β : Type} (A : Pr) (B : Pk) (f109_0 : Int → Int → Int → Int → Int → Int → Int → Int → (Bool → Option β) → Option β) (l108_5t2_0 : (List R → List R → List R → Option β) → (List R → List R → List R → Option β) → List R → List R → List R → Option β) (l108_5t2_1 : (List R → List R → List R → Option β) → (List R → List R → List R → Option β) → List R → List R → List R → Option β) (x0 x1 x2 : List R) (kk : Ex → List T → Option β) :
    uTs P28 [.l x0, .l x1, .l x2] (fun s _ => evK (mkK Try.prog A B [(109, M109_0 f109_0)] [] (Hn 108).pt []) X108_5 s (fun e s' => match e with
      | .nm => (match M108_5t2 l108_5t2_0 l108_5t2_1 s' with | some h => h kk | none => none)
      | .ex m => kk (.ex m) (clean ((Hn 108).lp (firstReg X108_5)).2 s')
      | .rt => kk .rt (clean ((Hn 108).lp (firstReg X108_5)).2 s'))) = GL108_5t2_0 A B f109_0 l108_5t2_0 l108_5t2_1 (fun x3 x4 x5 => kk (Ex.ex 0) (S28 x3 x4 x5)) (fun x6 x7 x8 => kk (Ex.ex 0) (S26 x6 x7 x8)) x0 x1 x2 := by kernel_rfl
theorem e108_5t2_1 {β : Type} (A : Pr) (B : Pk) (f109_0 : Int → Int → Int → Int → Int → Int → Int → Int → (Bool → Option β) → Option β) (l108_5t2_0 : (List R → List R → List R → Option β) → (List R → List R → List R → Option β) → List R → List R → List R → Option β) (l108_5t2_1 : (List R → List R → List R → Option β) → (List R → List R → List R → Option β) → List R → List R → List R → Option β) (x0 x1 x2 : List R) (kk : Ex → List T → Option β) :
    uTs P26 [.l x0, .l x1, .l x2] (fun s _ => evK (mkK Try.prog A B [(109, M109_0 f109_0)] [] (Hn 108).pt []) X108_5 s (fun e s' => match e with
      | .nm => (match M108_5t2 l108_5t2_0 l108_5t2_1 s' with | some h => h kk | none => none)
      | .ex m => kk (.ex m) (clean ((Hn 108).lp (firstReg X108_5)).2 s')
      | .rt => kk .rt (clean ((Hn 108).lp (firstReg X108_5)).2 s'))) = GL108_5t2_1 A B f109_0 l108_5t2_0 l108_5t2_1 (fun x3 x4 x5 => kk (Ex.ex 0) (S28 x3 x4 x5)) (fun x6 x7 x8 => kk (Ex.ex 0) (S26 x6 x7 x8)) x0 x1 x2 := by kernel_rfl
theorem ol108_5t2 {β : Type} (N : Nat) : ∀ n, SndL (β := β) Try.prog Hn (Hn 108) X108_5 (M108_5t2 (L108_5t2_0 re rk N n) (L108_5t2_1 re rk N n))
  | 0 => by
    intro s h kk r ha hr
    unfold M108_5t2 at ha
    split at ha
    · cases ha; cases hr
    · split at ha
      · cases ha; cases hr
      · cases ha
  | n + 1 => by
    have ih := ol108_5t2 (β := β) N n
    intro s h kk r ha hr
    unfold M108_5t2 at ha
    split at ha
    · rename_i hs
      cases ha
      have hk := via_pat hs ((e108_5t2_0 re rk (F109_0 re rk N) (L108_5t2_0 re rk N n) (L108_5t2_1 re rk N n) _ _ _ kk).trans hr)
      exact round_ok (show SndAll Try.prog Hn [(109, M109_0 (F109_0 re rk N))] from ⟨o109_0 N, trivial⟩) (spots := []) (by kernel_rfl) trivial ih (hd := clean ((Hn 108).lp 5).1 s) (by rw [i108_5]) hk
    · split at ha
      · rename_i hs
        cases ha
        have hk := via_pat hs ((e108_5t2_1 re rk (F109_0 re rk N) (L108_5t2_0 re rk N n) (L108_5t2_1 re rk N n) _ _ _ kk).trans hr)
        exact round_ok (show SndAll Try.prog Hn [(109, M109_0 (F109_0 re rk N))] from ⟨o109_0 N, trivial⟩) (spots := []) (by kernel_rfl) trivial ih (hd := clean ((Hn 108).lp 5).1 s) (by rw [i108_5]) hk
      · cases ha
def GL108_5t3_0 {β : Type} (A : Pr) (B : Pk) (f109_0 : Int → Int → Int → Int → Int → Int → Int → Int → (Bool → Option β) → Option β) (l108_5t3_0 : (List R → List R → List R → Option β) → (List R → List R → List R → Option β) → (List R → List R → List R → Option β) → (List R → List R → List R → Option β) → List R → List R → List R → Option β) (l108_5t3_1 : (List R → List R → List R → Option β) → (List R → List R → List R → Option β) → (List R → List R → List R → Option β) → (List R → List R → List R → Option β) → List R → List R → List R → Option β) (l108_5t3_2 : (List R → List R → List R → Option β) → (List R → List R → List R → Option β) → (List R → List R → List R → Option β) → (List R → List R → List R → Option β) → List R → List R → List R → Option β) (l108_5t3_3 : (List R → List R → List R → Option β) → (List R → List R → List R → Option β) → (List R → List R → List R → Option β) → (List R → List R → List R → Option β) → List R → List R → List R → Option β) (k0 : List R → List R → List R → Option β) (k1 : List R → List R → List R → Option β) (k2 : List R → List R → List R → Option β) (k3 : List R → List R → List R → Option β) (x0 x1 x2 : List R) : Option β :=
    match (A.cm .gtr (A.on (A.len x0)) 0) with
    | true => (match (A.cm .gtr (A.on (A.len x1)) 0) with
      | true => (match (A.ix 0 (A.len x1)) with
        | some x3 => (match (B.okC [(Sh.i .i64), (Sh.i .i64), (Sh.i .i64), (Sh.i .i64)] x1 x3 0) with
          | true => (match (A.ix 0 (A.len x0)) with
            | some x4 => (match (B.okC [(Sh.i .i64), (Sh.i .i64), (Sh.i .i64), (Sh.i .i64)] x0 x4 0) with
              | true => (f109_0 (B.ci x1 x3 0) (B.ci x1 x3 1) (B.ci x1 x3 2) (B.ci x1 x3 3) (B.ci x0 x4 0) (B.ci x0 x4 1) (B.ci x0 x4 2) (B.ci x0 x4 3) (fun x5 =>
                match x5 with
                  | true => (match (A.ix 0 (A.len x1)) with
                    | some x6 => (match (B.okC [(Sh.i .i64), (Sh.i .i64), (Sh.i .i64), (Sh.i .i64)] x1 x6 0) with
                      | true => (match (A.small (A.len (A.app x2 [(R.a [(R.i .i64 (B.ci x1 x6 0)), (R.i .i64 (B.ci x1 x6 1)), (R.i .i64 (B.ci x1 x6 2)), (R.i .i64 (B.ci x1 x6 3))])])) 32) with
                        | true => (match (A.sx 1 (A.len x1)) with
                          | some x7 => (l108_5t3_1 k0 k1 k2 k3 x0 (A.seg x1 x7 (A.sub (A.len x1) x7)) (A.app x2 [(R.a [(R.i .i64 (B.ci x1 x6 0)), (R.i .i64 (B.ci x1 x6 1)), (R.i .i64 (B.ci x1 x6 2)), (R.i .i64 (B.ci x1 x6 3))])]))
                          | none => none)
                        | false => none)
                      | false => none)
                    | none => none)
                  | false => (match (A.ix 0 (A.len x0)) with
                    | some x8 => (match (B.okC [(Sh.i .i64), (Sh.i .i64), (Sh.i .i64), (Sh.i .i64)] x0 x8 0) with
                      | true => (match (A.small (A.len (A.app x2 [(R.a [(R.i .i64 (B.ci x0 x8 0)), (R.i .i64 (B.ci x0 x8 1)), (R.i .i64 (B.ci x0 x8 2)), (R.i .i64 (B.ci x0 x8 3))])])) 32) with
                        | true => (match (A.sx 1 (A.len x0)) with
                          | some x9 => (l108_5t3_2 k0 k1 k2 k3 (A.seg x0 x9 (A.sub (A.len x0) x9)) x1 (A.app x2 [(R.a [(R.i .i64 (B.ci x0 x8 0)), (R.i .i64 (B.ci x0 x8 1)), (R.i .i64 (B.ci x0 x8 2)), (R.i .i64 (B.ci x0 x8 3))])]))
                          | none => none)
                        | false => none)
                      | false => none)
                    | none => none)))
              | false => none)
            | none => none)
          | false => none)
        | none => none)
      | false => (k0 x0 x1 x2))
    | false => (k0 x0 x1 x2)
def GL108_5t3_1 {β : Type} (A : Pr) (B : Pk) (f109_0 : Int → Int → Int → Int → Int → Int → Int → Int → (Bool → Option β) → Option β) (l108_5t3_0 : (List R → List R → List R → Option β) → (List R → List R → List R → Option β) → (List R → List R → List R → Option β) → (List R → List R → List R → Option β) → List R → List R → List R → Option β) (l108_5t3_1 : (List R → List R → List R → Option β) → (List R → List R → List R → Option β) → (List R → List R → List R → Option β) → (List R → List R → List R → Option β) → List R → List R → List R → Option β) (l108_5t3_2 : (List R → List R → List R → Option β) → (List R → List R → List R → Option β) → (List R → List R → List R → Option β) → (List R → List R → List R → Option β) → List R → List R → List R → Option β) (l108_5t3_3 : (List R → List R → List R → Option β) → (List R → List R → List R → Option β) → (List R → List R → List R → Option β) → (List R → List R → List R → Option β) → List R → List R → List R → Option β) (k0 : List R → List R → List R → Option β) (k1 : List R → List R → List R → Option β) (k2 : List R → List R → List R → Option β) (k3 : List R → List R → List R → Option β) (x0 x1 x2 : List R) : Option β :=
    match (A.cm .gtr (A.on (A.len x0)) 0) with
    | true => (match (A.cm .gtr (A.on (A.len x1)) 0) with
      | true => (match (A.ix 0 (A.len x1)) with
        | some x3 => (match (B.okE [(Sh.i .i64), (Sh.i .i64), (Sh.i .i64), (Sh.i .i64)] true x1 x3) with
          | true => (match (A.ix 0 (A.len x0)) with
            | some x4 => (match (B.okC [(Sh.i .i64), (Sh.i .i64), (Sh.i .i64), (Sh.i .i64)] x0 x4 0) with
              | true => (f109_0 (B.ci x1 x3 0) (B.ci x1 x3 1) (B.ci x1 x3 2) (B.ci x1 x3 3) (B.ci x0 x4 0) (B.ci x0 x4 1) (B.ci x0 x4 2) (B.ci x0 x4 3) (fun x5 =>
                match x5 with
                  | true => (match (A.ix 0 (A.len x1)) with
                    | some x6 => (match (B.okE [(Sh.i .i64), (Sh.i .i64), (Sh.i .i64), (Sh.i .i64)] true x1 x6) with
                      | true => (match (A.small (A.len (A.app x2 [(R.a [(R.i .i64 (B.ci x1 x6 0)), (R.i .i64 (B.ci x1 x6 1)), (R.i .i64 (B.ci x1 x6 2)), (R.i .i64 (B.ci x1 x6 3))])])) 32) with
                        | true => (match (A.sx 1 (A.len x1)) with
                          | some x7 => (l108_5t3_1 k0 k1 k2 k3 x0 (A.seg x1 x7 (A.sub (A.len x1) x7)) (A.app x2 [(R.a [(R.i .i64 (B.ci x1 x6 0)), (R.i .i64 (B.ci x1 x6 1)), (R.i .i64 (B.ci x1 x6 2)), (R.i .i64 (B.ci x1 x6 3))])]))
                          | none => none)
                        | false => none)
                      | false => none)
                    | none => none)
                  | false => (match (A.ix 0 (A.len x0)) with
                    | some x8 => (match (B.okC [(Sh.i .i64), (Sh.i .i64), (Sh.i .i64), (Sh.i .i64)] x0 x8 0) with
                      | true => (match (A.small (A.len (A.app x2 [(R.a [(R.i .i64 (B.ci x0 x8 0)), (R.i .i64 (B.ci x0 x8 1)), (R.i .i64 (B.ci x0 x8 2)), (R.i .i64 (B.ci x0 x8 3))])])) 32) with
                        | true => (match (A.sx 1 (A.len x0)) with
                          | some x9 => (l108_5t3_3 k0 k1 k2 k3 (A.seg x0 x9 (A.sub (A.len x0) x9)) x1 (A.app x2 [(R.a [(R.i .i64 (B.ci x0 x8 0)), (R.i .i64 (B.ci x0 x8 1)), (R.i .i64 (B.ci x0 x8 2)), (R.i .i64 (B.ci x0 x8 3))])]))
                          | none => none)
                        | false => none)
                      | false => none)
                    | none => none)))
              | false => none)
            | none => none)
          | false => none)
        | none => none)
      | false => (k1 x0 x1 x2))
    | false => (k1 x0 x1 x2)
def GL108_5t3_2 {β : Type} (A : Pr) (B : Pk) (f109_0 : Int → Int → Int → Int → Int → Int → Int → Int → (Bool → Option β) → Option β) (l108_5t3_0 : (List R → List R → List R → Option β) → (List R → List R → List R → Option β) → (List R → List R → List R → Option β) → (List R → List R → List R → Option β) → List R → List R → List R → Option β) (l108_5t3_1 : (List R → List R → List R → Option β) → (List R → List R → List R → Option β) → (List R → List R → List R → Option β) → (List R → List R → List R → Option β) → List R → List R → List R → Option β) (l108_5t3_2 : (List R → List R → List R → Option β) → (List R → List R → List R → Option β) → (List R → List R → List R → Option β) → (List R → List R → List R → Option β) → List R → List R → List R → Option β) (l108_5t3_3 : (List R → List R → List R → Option β) → (List R → List R → List R → Option β) → (List R → List R → List R → Option β) → (List R → List R → List R → Option β) → List R → List R → List R → Option β) (k0 : List R → List R → List R → Option β) (k1 : List R → List R → List R → Option β) (k2 : List R → List R → List R → Option β) (k3 : List R → List R → List R → Option β) (x0 x1 x2 : List R) : Option β :=
    match (A.cm .gtr (A.on (A.len x0)) 0) with
    | true => (match (A.cm .gtr (A.on (A.len x1)) 0) with
      | true => (match (A.ix 0 (A.len x1)) with
        | some x3 => (match (B.okC [(Sh.i .i64), (Sh.i .i64), (Sh.i .i64), (Sh.i .i64)] x1 x3 0) with
          | true => (match (A.ix 0 (A.len x0)) with
            | some x4 => (match (B.okE [(Sh.i .i64), (Sh.i .i64), (Sh.i .i64), (Sh.i .i64)] true x0 x4) with
              | true => (f109_0 (B.ci x1 x3 0) (B.ci x1 x3 1) (B.ci x1 x3 2) (B.ci x1 x3 3) (B.ci x0 x4 0) (B.ci x0 x4 1) (B.ci x0 x4 2) (B.ci x0 x4 3) (fun x5 =>
                match x5 with
                  | true => (match (A.ix 0 (A.len x1)) with
                    | some x6 => (match (B.okC [(Sh.i .i64), (Sh.i .i64), (Sh.i .i64), (Sh.i .i64)] x1 x6 0) with
                      | true => (match (A.small (A.len (A.app x2 [(R.a [(R.i .i64 (B.ci x1 x6 0)), (R.i .i64 (B.ci x1 x6 1)), (R.i .i64 (B.ci x1 x6 2)), (R.i .i64 (B.ci x1 x6 3))])])) 32) with
                        | true => (match (A.sx 1 (A.len x1)) with
                          | some x7 => (l108_5t3_3 k0 k1 k2 k3 x0 (A.seg x1 x7 (A.sub (A.len x1) x7)) (A.app x2 [(R.a [(R.i .i64 (B.ci x1 x6 0)), (R.i .i64 (B.ci x1 x6 1)), (R.i .i64 (B.ci x1 x6 2)), (R.i .i64 (B.ci x1 x6 3))])]))
                          | none => none)
                        | false => none)
                      | false => none)
                    | none => none)
                  | false => (match (A.ix 0 (A.len x0)) with
                    | some x8 => (match (B.okE [(Sh.i .i64), (Sh.i .i64), (Sh.i .i64), (Sh.i .i64)] true x0 x8) with
                      | true => (match (A.small (A.len (A.app x2 [(R.a [(R.i .i64 (B.ci x0 x8 0)), (R.i .i64 (B.ci x0 x8 1)), (R.i .i64 (B.ci x0 x8 2)), (R.i .i64 (B.ci x0 x8 3))])])) 32) with
                        | true => (match (A.sx 1 (A.len x0)) with
                          | some x9 => (l108_5t3_2 k0 k1 k2 k3 (A.seg x0 x9 (A.sub (A.len x0) x9)) x1 (A.app x2 [(R.a [(R.i .i64 (B.ci x0 x8 0)), (R.i .i64 (B.ci x0 x8 1)), (R.i .i64 (B.ci x0 x8 2)), (R.i .i64 (B.ci x0 x8 3))])]))
                          | none => none)
                        | false => none)
                      | false => none)
                    | none => none)))
              | false => none)
            | none => none)
          | false => none)
        | none => none)
      | false => (k2 x0 x1 x2))
    | false => (k2 x0 x1 x2)
def GL108_5t3_3 {β : Type} (A : Pr) (B : Pk) (f109_0 : Int → Int → Int → Int → Int → Int → Int → Int → (Bool → Option β) → Option β) (l108_5t3_0 : (List R → List R → List R → Option β) → (List R → List R → List R → Option β) → (List R → List R → List R → Option β) → (List R → List R → List R → Option β) → List R → List R → List R → Option β) (l108_5t3_1 : (List R → List R → List R → Option β) → (List R → List R → List R → Option β) → (List R → List R → List R → Option β) → (List R → List R → List R → Option β) → List R → List R → List R → Option β) (l108_5t3_2 : (List R → List R → List R → Option β) → (List R → List R → List R → Option β) → (List R → List R → List R → Option β) → (List R → List R → List R → Option β) → List R → List R → List R → Option β) (l108_5t3_3 : (List R → List R → List R → Option β) → (List R → List R → List R → Option β) → (List R → List R → List R → Option β) → (List R → List R → List R → Option β) → List R → List R → List R → Option β) (k0 : List R → List R → List R → Option β) (k1 : List R → List R → List R → Option β) (k2 : List R → List R → List R → Option β) (k3 : List R → List R → List R → Option β) (x0 x1 x2 : List R) : Option β :=
    match (A.cm .gtr (A.on (A.len x0)) 0) with
    | true => (match (A.cm .gtr (A.on (A.len x1)) 0) with
      | true => (match (A.ix 0 (A.len x1)) with
        | some x3 => (match (B.okE [(Sh.i .i64), (Sh.i .i64), (Sh.i .i64), (Sh.i .i64)] true x1 x3) with
          | true => (match (A.ix 0 (A.len x0)) with
            | some x4 => (match (B.okE [(Sh.i .i64), (Sh.i .i64), (Sh.i .i64), (Sh.i .i64)] true x0 x4) with
              | true => (f109_0 (B.ci x1 x3 0) (B.ci x1 x3 1) (B.ci x1 x3 2) (B.ci x1 x3 3) (B.ci x0 x4 0) (B.ci x0 x4 1) (B.ci x0 x4 2) (B.ci x0 x4 3) (fun x5 =>
                match x5 with
                  | true => (match (A.ix 0 (A.len x1)) with
                    | some x6 => (match (B.okE [(Sh.i .i64), (Sh.i .i64), (Sh.i .i64), (Sh.i .i64)] true x1 x6) with
                      | true => (match (A.small (A.len (A.app x2 [(R.a [(R.i .i64 (B.ci x1 x6 0)), (R.i .i64 (B.ci x1 x6 1)), (R.i .i64 (B.ci x1 x6 2)), (R.i .i64 (B.ci x1 x6 3))])])) 32) with
                        | true => (match (A.sx 1 (A.len x1)) with
                          | some x7 => (l108_5t3_3 k0 k1 k2 k3 x0 (A.seg x1 x7 (A.sub (A.len x1) x7)) (A.app x2 [(R.a [(R.i .i64 (B.ci x1 x6 0)), (R.i .i64 (B.ci x1 x6 1)), (R.i .i64 (B.ci x1 x6 2)), (R.i .i64 (B.ci x1 x6 3))])]))
                          | none => none)
                        | false => none)
                      | false => none)
                    | none => none)
                  | false => (match (A.ix 0 (A.len x0)) with
                    | some x8 => (match (B.okE [(Sh.i .i64), (Sh.i .i64), (Sh.i .i64), (Sh.i .i64)] true x0 x8) with
                      | true => (match (A.small (A.len (A.app x2 [(R.a [(R.i .i64 (B.ci x0 x8 0)), (R.i .i64 (B.ci x0 x8 1)), (R.i .i64 (B.ci x0 x8 2)), (R.i .i64 (B.ci x0 x8 3))])])) 32) with
                        | true => (match (A.sx 1 (A.len x0)) with
                          | some x9 => (l108_5t3_3 k0 k1 k2 k3 (A.seg x0 x9 (A.sub (A.len x0) x9)) x1 (A.app x2 [(R.a [(R.i .i64 (B.ci x0 x8 0)), (R.i .i64 (B.ci x0 x8 1)), (R.i .i64 (B.ci x0 x8 2)), (R.i .i64 (B.ci x0 x8 3))])]))
                          | none => none)
                        | false => none)
                      | false => none)
                    | none => none)))
              | false => none)
            | none => none)
          | false => none)
        | none => none)
      | false => (k3 x0 x1 x2))
    | false => (k3 x0 x1 x2)
mutual
def L108_5t3_0 {β : Type} (A : Pr) (B : Pk) (N : Nat) : Nat → (List R → List R → List R → Option β) → (List R → List R → List R → Option β) → (List R → List R → List R → Option β) → (List R → List R → List R → Option β) → List R → List R → List R → Option β
  | 0, _, _, _, _, _, _, _ => none
  | n + 1, k0, k1, k2, k3, x0, x1, x2 =>
    GL108_5t3_0 A B (F109_0 A B N) (L108_5t3_0 A B N n) (L108_5t3_1 A B N n) (L108_5t3_2 A B N n) (L108_5t3_3 A B N n) k0 k1 k2 k3 x0 x1 x2
def L108_5t3_1 {β : Type} (A : Pr) (B : Pk) (N : Nat) : Nat → (List R → List R → List R → Option β) → (List R → List R → List R → Option β) → (List R → List R → List R → Option β) → (List R → List R → List R → Option β) → List R → List R → List R → Option β
  | 0, _, _, _, _, _, _, _ => none
  | n + 1, k0, k1, k2, k3, x0, x1, x2 =>
    GL108_5t3_1 A B (F109_0 A B N) (L108_5t3_0 A B N n) (L108_5t3_1 A B N n) (L108_5t3_2 A B N n) (L108_5t3_3 A B N n) k0 k1 k2 k3 x0 x1 x2
def L108_5t3_2 {β : Type} (A : Pr) (B : Pk) (N : Nat) : Nat → (List R → List R → List R → Option β) → (List R → List R → List R → Option β) → (List R → List R → List R → Option β) → (List R → List R → List R → Option β) → List R → List R → List R → Option β
  | 0, _, _, _, _, _, _, _ => none
  | n + 1, k0, k1, k2, k3, x0, x1, x2 =>
    GL108_5t3_2 A B (F109_0 A B N) (L108_5t3_0 A B N n) (L108_5t3_1 A B N n) (L108_5t3_2 A B N n) (L108_5t3_3 A B N n) k0 k1 k2 k3 x0 x1 x2
def L108_5t3_3 {β : Type} (A : Pr) (B : Pk) (N : Nat) : Nat → (List R → List R → List R → Option β) → (List R → List R → List R → Option β) → (List R → List R → List R → Option β) → (List R → List R → List R → Option β) → List R → List R → List R → Option β
  | 0, _, _, _, _, _, _, _ => none
  | n + 1, k0, k1, k2, k3, x0, x1, x2 =>
    GL108_5t3_3 A B (F109_0 A B N) (L108_5t3_0 A B N n) (L108_5t3_1 A B N n) (L108_5t3_2 A B N n) (L108_5t3_3 A B N n) k0 k1 k2 k3 x0 x1 x2
end
def P29 : List PT := [.us 1, (.f 109 []), .us 3, (.own true 4), (.own true 4), (.own true 4), .us 58]
def S29 (x0 x1 x2 : List R) : List T := (T.u :: (T.f 109 []) :: T.u :: T.u :: T.u :: (T.own true 4 x0) :: (T.own true 4 x1) :: (T.own true 4 x2) :: T.u :: T.u :: T.u :: T.u :: T.u :: T.u :: T.u :: T.u :: T.u :: T.u :: T.u :: T.u :: T.u :: T.u :: T.u :: T.u :: T.u :: T.u :: T.u :: T.u :: T.u :: T.u :: T.u :: T.u :: T.u :: T.u :: T.u :: T.u :: T.u :: T.u :: T.u :: T.u :: T.u :: T.u :: T.u :: T.u :: T.u :: T.u :: T.u :: T.u :: T.u :: T.u :: T.u :: T.u :: T.u :: T.u :: T.u :: T.u :: T.u :: T.u :: T.u :: T.u :: T.u :: T.u :: T.u :: T.u :: T.u :: T.u :: [])
noncomputable def M108_5t3 {β : Type} (l108_5t3_0 : (List R → List R → List R → Option β) → (List R → List R → List R → Option β) → (List R → List R → List R → Option β) → (List R → List R → List R → Option β) → List R → List R → List R → Option β) (l108_5t3_1 : (List R → List R → List R → Option β) → (List R → List R → List R → Option β) → (List R → List R → List R → Option β) → (List R → List R → List R → Option β) → List R → List R → List R → Option β) (l108_5t3_2 : (List R → List R → List R → Option β) → (List R → List R → List R → Option β) → (List R → List R → List R → Option β) → (List R → List R → List R → Option β) → List R → List R → List R → Option β) (l108_5t3_3 : (List R → List R → List R → Option β) → (List R → List R → List R → Option β) → (List R → List R → List R → Option β) → (List R → List R → List R → Option β) → List R → List R → List R → Option β) (s : List T) : Option ((Ex → List T → Option β) → Option β) :=
  match gTs P29 (clean ((Hn 108).lp 5).1 s) [] with
  | some [.l x0, .l x1, .l x2] => some fun kk => l108_5t3_0 (fun x3 x4 x5 => kk (Ex.ex 0) (S29 x3 x4 x5)) (fun x6 x7 x8 => kk (Ex.ex 0) (S28 x6 x7 x8)) (fun x9 xa xb => kk (Ex.ex 0) (S27 x9 xa xb)) (fun xc xd xe => kk (Ex.ex 0) (S26 xc xd xe)) x0 x1 x2
  | _ => (match gTs P28 (clean ((Hn 108).lp 5).1 s) [] with
  | some [.l xf, .l xg, .l xh] => some fun kk => l108_5t3_1 (fun x3 x4 x5 => kk (Ex.ex 0) (S29 x3 x4 x5)) (fun x6 x7 x8 => kk (Ex.ex 0) (S28 x6 x7 x8)) (fun x9 xa xb => kk (Ex.ex 0) (S27 x9 xa xb)) (fun xc xd xe => kk (Ex.ex 0) (S26 xc xd xe)) xf xg xh
  | _ => (match gTs P27 (clean ((Hn 108).lp 5).1 s) [] with
  | some [.l xi, .l xj, .l xk] => some fun kk => l108_5t3_2 (fun x3 x4 x5 => kk (Ex.ex 0) (S29 x3 x4 x5)) (fun x6 x7 x8 => kk (Ex.ex 0) (S28 x6 x7 x8)) (fun x9 xa xb => kk (Ex.ex 0) (S27 x9 xa xb)) (fun xc xd xe => kk (Ex.ex 0) (S26 xc xd xe)) xi xj xk
  | _ => (match gTs P26 (clean ((Hn 108).lp 5).1 s) [] with
  | some [.l xl, .l xm, .l xn] => some fun kk => l108_5t3_3 (fun x3 x4 x5 => kk (Ex.ex 0) (S29 x3 x4 x5)) (fun x6 x7 x8 => kk (Ex.ex 0) (S28 x6 x7 x8)) (fun x9 xa xb => kk (Ex.ex 0) (S27 x9 xa xb)) (fun xc xd xe => kk (Ex.ex 0) (S26 xc xd xe)) xl xm xn
  | _ => none)))
theorem e108_5t3_0 {β : Type} (A : Pr) (B : Pk) (f109_0 : Int → Int → Int → Int → Int → Int → Int → Int → (Bool → Option β) → Option β) (l108_5t3_0 : (List R → List R → List R → Option β) → (List R → List R → List R → Option β) → (List R → List R → List R → Option β) → (List R → List R → List R → Option β) → List R → List R → List R → Option β) (l108_5t3_1 : (List R → List R → List R → Option β) → (List R → List R → List R → Option β) → (List R → List R → List R → Option β) → (List R → List R → List R → Option β) → List R → List R → List R → Option β) (l108_5t3_2 : (List R → List R → List R → Option β) → (List R → List R → List R → Option β) → (List R → List R → List R → Option β) → (List R → List R → List R → Option β) → List R → List R → List R → Option β) (l108_5t3_3 : (List R → List R → List R → Option β) → (List R → List R → List R → Option β) → (List R → List R → List R → Option β) → (List R → List R → List R → Option β) → List R → List R → List R → Option β) (x0 x1 x2 : List R) (kk : Ex → List T → Option β) :
    uTs P29 [.l x0, .l x1, .l x2] (fun s _ => evK (mkK Try.prog A B [(109, M109_0 f109_0)] [] (Hn 108).pt []) X108_5 s (fun e s' => match e with
      | .nm => (match M108_5t3 l108_5t3_0 l108_5t3_1 l108_5t3_2 l108_5t3_3 s' with | some h => h kk | none => none)
      | .ex m => kk (.ex m) (clean ((Hn 108).lp (firstReg X108_5)).2 s')
      | .rt => kk .rt (clean ((Hn 108).lp (firstReg X108_5)).2 s'))) = GL108_5t3_0 A B f109_0 l108_5t3_0 l108_5t3_1 l108_5t3_2 l108_5t3_3 (fun x3 x4 x5 => kk (Ex.ex 0) (S29 x3 x4 x5)) (fun x6 x7 x8 => kk (Ex.ex 0) (S28 x6 x7 x8)) (fun x9 xa xb => kk (Ex.ex 0) (S27 x9 xa xb)) (fun xc xd xe => kk (Ex.ex 0) (S26 xc xd xe)) x0 x1 x2 := by kernel_rfl
theorem e108_5t3_1 {β : Type} (A : Pr) (B : Pk) (f109_0 : Int → Int → Int → Int → Int → Int → Int → Int → (Bool → Option β) → Option β) (l108_5t3_0 : (List R → List R → List R → Option β) → (List R → List R → List R → Option β) → (List R → List R → List R → Option β) → (List R → List R → List R → Option β) → List R → List R → List R → Option β) (l108_5t3_1 : (List R → List R → List R → Option β) → (List R → List R → List R → Option β) → (List R → List R → List R → Option β) → (List R → List R → List R → Option β) → List R → List R → List R → Option β) (l108_5t3_2 : (List R → List R → List R → Option β) → (List R → List R → List R → Option β) → (List R → List R → List R → Option β) → (List R → List R → List R → Option β) → List R → List R → List R → Option β) (l108_5t3_3 : (List R → List R → List R → Option β) → (List R → List R → List R → Option β) → (List R → List R → List R → Option β) → (List R → List R → List R → Option β) → List R → List R → List R → Option β) (x0 x1 x2 : List R) (kk : Ex → List T → Option β) :
    uTs P28 [.l x0, .l x1, .l x2] (fun s _ => evK (mkK Try.prog A B [(109, M109_0 f109_0)] [] (Hn 108).pt []) X108_5 s (fun e s' => match e with
      | .nm => (match M108_5t3 l108_5t3_0 l108_5t3_1 l108_5t3_2 l108_5t3_3 s' with | some h => h kk | none => none)
      | .ex m => kk (.ex m) (clean ((Hn 108).lp (firstReg X108_5)).2 s')
      | .rt => kk .rt (clean ((Hn 108).lp (firstReg X108_5)).2 s'))) = GL108_5t3_1 A B f109_0 l108_5t3_0 l108_5t3_1 l108_5t3_2 l108_5t3_3 (fun x3 x4 x5 => kk (Ex.ex 0) (S29 x3 x4 x5)) (fun x6 x7 x8 => kk (Ex.ex 0) (S28 x6 x7 x8)) (fun x9 xa xb => kk (Ex.ex 0) (S27 x9 xa xb)) (fun xc xd xe => kk (Ex.ex 0) (S26 xc xd xe)) x0 x1 x2 := by kernel_rfl
theorem e108_5t3_2 {β : Type} (A : Pr) (B : Pk) (f109_0 : Int → Int → Int → Int → Int → Int → Int → Int → (Bool → Option β) → Option β) (l108_5t3_0 : (List R → List R → List R → Option β) → (List R → List R → List R → Option β) → (List R → List R → List R → Option β) → (List R → List R → List R → Option β) → List R → List R → List R → Option β) (l108_5t3_1 : (List R → List R → List R → Option β) → (List R → List R → List R → Option β) → (List R → List R → List R → Option β) → (List R → List R → List R → Option β) → List R → List R → List R → Option β) (l108_5t3_2 : (List R → List R → List R → Option β) → (List R → List R → List R → Option β) → (List R → List R → List R → Option β) → (List R → List R → List R → Option β) → List R → List R → List R → Option β) (l108_5t3_3 : (List R → List R → List R → Option β) → (List R → List R → List R → Option β) → (List R → List R → List R → Option β) → (List R → List R → List R → Option β) → List R → List R → List R → Option β) (x0 x1 x2 : List R) (kk : Ex → List T → Option β) :
    uTs P27 [.l x0, .l x1, .l x2] (fun s _ => evK (mkK Try.prog A B [(109, M109_0 f109_0)] [] (Hn 108).pt []) X108_5 s (fun e s' => match e with
      | .nm => (match M108_5t3 l108_5t3_0 l108_5t3_1 l108_5t3_2 l108_5t3_3 s' with | some h => h kk | none => none)
      | .ex m => kk (.ex m) (clean ((Hn 108).lp (firstReg X108_5)).2 s')
      | .rt => kk .rt (clean ((Hn 108).lp (firstReg X108_5)).2 s'))) = GL108_5t3_2 A B f109_0 l108_5t3_0 l108_5t3_1 l108_5t3_2 l108_5t3_3 (fun x3 x4 x5 => kk (Ex.ex 0) (S29 x3 x4 x5)) (fun x6 x7 x8 => kk (Ex.ex 0) (S28 x6 x7 x8)) (fun x9 xa xb => kk (Ex.ex 0) (S27 x9 xa xb)) (fun xc xd xe => kk (Ex.ex 0) (S26 xc xd xe)) x0 x1 x2 := by kernel_rfl
theorem e108_5t3_3 {β : Type} (A : Pr) (B : Pk) (f109_0 : Int → Int → Int → Int → Int → Int → Int → Int → (Bool → Option β) → Option β) (l108_5t3_0 : (List R → List R → List R → Option β) → (List R → List R → List R → Option β) → (List R → List R → List R → Option β) → (List R → List R → List R → Option β) → List R → List R → List R → Option β) (l108_5t3_1 : (List R → List R → List R → Option β) → (List R → List R → List R → Option β) → (List R → List R → List R → Option β) → (List R → List R → List R → Option β) → List R → List R → List R → Option β) (l108_5t3_2 : (List R → List R → List R → Option β) → (List R → List R → List R → Option β) → (List R → List R → List R → Option β) → (List R → List R → List R → Option β) → List R → List R → List R → Option β) (l108_5t3_3 : (List R → List R → List R → Option β) → (List R → List R → List R → Option β) → (List R → List R → List R → Option β) → (List R → List R → List R → Option β) → List R → List R → List R → Option β) (x0 x1 x2 : List R) (kk : Ex → List T → Option β) :
    uTs P26 [.l x0, .l x1, .l x2] (fun s _ => evK (mkK Try.prog A B [(109, M109_0 f109_0)] [] (Hn 108).pt []) X108_5 s (fun e s' => match e with
      | .nm => (match M108_5t3 l108_5t3_0 l108_5t3_1 l108_5t3_2 l108_5t3_3 s' with | some h => h kk | none => none)
      | .ex m => kk (.ex m) (clean ((Hn 108).lp (firstReg X108_5)).2 s')
      | .rt => kk .rt (clean ((Hn 108).lp (firstReg X108_5)).2 s'))) = GL108_5t3_3 A B f109_0 l108_5t3_0 l108_5t3_1 l108_5t3_2 l108_5t3_3 (fun x3 x4 x5 => kk (Ex.ex 0) (S29 x3 x4 x5)) (fun x6 x7 x8 => kk (Ex.ex 0) (S28 x6 x7 x8)) (fun x9 xa xb => kk (Ex.ex 0) (S27 x9 xa xb)) (fun xc xd xe => kk (Ex.ex 0) (S26 xc xd xe)) x0 x1 x2 := by kernel_rfl
theorem ol108_5t3 {β : Type} (N : Nat) : ∀ n, SndL (β := β) Try.prog Hn (Hn 108) X108_5 (M108_5t3 (L108_5t3_0 re rk N n) (L108_5t3_1 re rk N n) (L108_5t3_2 re rk N n) (L108_5t3_3 re rk N n))
  | 0 => by
    intro s h kk r ha hr
    unfold M108_5t3 at ha
    split at ha
    · cases ha; cases hr
    · split at ha
      · cases ha; cases hr
      · split at ha
        · cases ha; cases hr
        · split at ha
          · cases ha; cases hr
          · cases ha
  | n + 1 => by
    have ih := ol108_5t3 (β := β) N n
    intro s h kk r ha hr
    unfold M108_5t3 at ha
    split at ha
    · rename_i hs
      cases ha
      have hk := via_pat hs ((e108_5t3_0 re rk (F109_0 re rk N) (L108_5t3_0 re rk N n) (L108_5t3_1 re rk N n) (L108_5t3_2 re rk N n) (L108_5t3_3 re rk N n) _ _ _ kk).trans hr)
      exact round_ok (show SndAll Try.prog Hn [(109, M109_0 (F109_0 re rk N))] from ⟨o109_0 N, trivial⟩) (spots := []) (by kernel_rfl) trivial ih (hd := clean ((Hn 108).lp 5).1 s) (by rw [i108_5]) hk
    · split at ha
      · rename_i hs
        cases ha
        have hk := via_pat hs ((e108_5t3_1 re rk (F109_0 re rk N) (L108_5t3_0 re rk N n) (L108_5t3_1 re rk N n) (L108_5t3_2 re rk N n) (L108_5t3_3 re rk N n) _ _ _ kk).trans hr)
        exact round_ok (show SndAll Try.prog Hn [(109, M109_0 (F109_0 re rk N))] from ⟨o109_0 N, trivial⟩) (spots := []) (by kernel_rfl) trivial ih (hd := clean ((Hn 108).lp 5).1 s) (by rw [i108_5]) hk
      · split at ha
        · rename_i hs
          cases ha
          have hk := via_pat hs ((e108_5t3_2 re rk (F109_0 re rk N) (L108_5t3_0 re rk N n) (L108_5t3_1 re rk N n) (L108_5t3_2 re rk N n) (L108_5t3_3 re rk N n) _ _ _ kk).trans hr)
          exact round_ok (show SndAll Try.prog Hn [(109, M109_0 (F109_0 re rk N))] from ⟨o109_0 N, trivial⟩) (spots := []) (by kernel_rfl) trivial ih (hd := clean ((Hn 108).lp 5).1 s) (by rw [i108_5]) hk
        · split at ha
          · rename_i hs
            cases ha
            have hk := via_pat hs ((e108_5t3_3 re rk (F109_0 re rk N) (L108_5t3_0 re rk N n) (L108_5t3_1 re rk N n) (L108_5t3_2 re rk N n) (L108_5t3_3 re rk N n) _ _ _ kk).trans hr)
            exact round_ok (show SndAll Try.prog Hn [(109, M109_0 (F109_0 re rk N))] from ⟨o109_0 N, trivial⟩) (spots := []) (by kernel_rfl) trivial ih (hd := clean ((Hn 108).lp 5).1 s) (by rw [i108_5]) hk
          · cases ha
def G108_0 {β : Type} (A : Pr) (B : Pk) (f108_0 : List R → (List R → Option β) → (List R → Option β) → Option β) (l108_5_0 : (List R → List R → List R → Option β) → List R → List R → List R → Option β) (l108_5t1_0 : (List R → List R → List R → Option β) → (List R → List R → List R → Option β) → List R → List R → List R → Option β) (l108_5t1_1 : (List R → List R → List R → Option β) → (List R → List R → List R → Option β) → List R → List R → List R → Option β) (l108_5t2_0 : (List R → List R → List R → Option β) → (List R → List R → List R → Option β) → List R → List R → List R → Option β) (l108_5t2_1 : (List R → List R → List R → Option β) → (List R → List R → List R → Option β) → List R → List R → List R → Option β) (l108_5t3_0 : (List R → List R → List R → Option β) → (List R → List R → List R → Option β) → (List R → List R → List R → Option β) → (List R → List R → List R → Option β) → List R → List R → List R → Option β) (l108_5t3_1 : (List R → List R → List R → Option β) → (List R → List R → List R → Option β) → (List R → List R → List R → Option β) → (List R → List R → List R → Option β) → List R → List R → List R → Option β) (l108_5t3_2 : (List R → List R → List R → Option β) → (List R → List R → List R → Option β) → (List R → List R → List R → Option β) → (List R → List R → List R → Option β) → List R → List R → List R → Option β) (l108_5t3_3 : (List R → List R → List R → Option β) → (List R → List R → List R → Option β) → (List R → List R → List R → Option β) → (List R → List R → List R → Option β) → List R → List R → List R → Option β) (x0 : List R) (k0 : List R → Option β) (k1 : List R → Option β) : Option β :=
    match (A.cm .lss (A.on (A.len x0)) 2) with
    | true => (k0 x0)
    | false => (match (A.nz 2) with
      | true => none
      | false => (match (A.sx (A.ar .quo .i64 (A.on (A.len x0)) 2) (A.len x0)) with
        | some x1 => (f108_0 (A.seg x0 0 (A.sub x1 0)) (fun x2 =>
          match (A.nz 2) with
            | true => none
            | false => (match (A.sx (A.ar .quo .i64 (A.on (A.len x0)) 2) (A.len x0)) with
              | some x3 => (f108_0 (A.seg x0 x3 (A.sub (A.len x0) x3)) (fun x4 =>
                match (A.mkn (A.on (A.len x0)) 32) with
                  | some x5 => (match (A.sx 0 x5) with
                    | some x6 => (l108_5_0 (fun x7 x8 x9 =>
                      match (A.small (A.len (A.app x9 x7)) 32) with
                        | true => (match (A.small (A.len (A.app (A.app x9 x7) x8)) 32) with
                          | true => (k1 (A.app (A.app x9 x7) x8))
                          | false => none)
                        | false => none) x2 x4 (A.rep x6 (R.a [(R.i .i64 0), (R.i .i64 0), (R.i .i64 0), (R.i .i64 0)])))
                    | none => none)
                  | none => none) (fun xa =>
                match (A.mkn (A.on (A.len x0)) 32) with
                  | some xb => (match (A.sx 0 xb) with
                    | some xc => (l108_5t1_0 (fun xd xe xf =>
                      match (A.small (A.len (A.app xf xd)) 32) with
                        | true => (match (A.small (A.len (A.app (A.app xf xd) xe)) 32) with
                          | true => (k1 (A.app (A.app xf xd) xe))
                          | false => none)
                        | false => none) (fun xg xh xi =>
                      match (A.small (A.len (A.app xi xg)) 32) with
                        | true => (match (A.small (A.len (A.app (A.app xi xg) xh)) 32) with
                          | true => (k1 (A.app (A.app xi xg) xh))
                          | false => none)
                        | false => none) x2 xa (A.rep xc (R.a [(R.i .i64 0), (R.i .i64 0), (R.i .i64 0), (R.i .i64 0)])))
                    | none => none)
                  | none => none))
              | none => none)) (fun xj =>
          match (A.nz 2) with
            | true => none
            | false => (match (A.sx (A.ar .quo .i64 (A.on (A.len x0)) 2) (A.len x0)) with
              | some xk => (f108_0 (A.seg x0 xk (A.sub (A.len x0) xk)) (fun xl =>
                match (A.mkn (A.on (A.len x0)) 32) with
                  | some xm => (match (A.sx 0 xm) with
                    | some xn => (l108_5t2_0 (fun xo xp xq =>
                      match (A.small (A.len (A.app xq xo)) 32) with
                        | true => (match (A.small (A.len (A.app (A.app xq xo) xp)) 32) with
                          | true => (k1 (A.app (A.app xq xo) xp))
                          | false => none)
                        | false => none) (fun xr xs xt =>
                      match (A.small (A.len (A.app xt xr)) 32) with
                        | true => (match (A.small (A.len (A.app (A.app xt xr) xs)) 32) with
                          | true => (k1 (A.app (A.app xt xr) xs))
                          | false => none)
                        | false => none) xj xl (A.rep xn (R.a [(R.i .i64 0), (R.i .i64 0), (R.i .i64 0), (R.i .i64 0)])))
                    | none => none)
                  | none => none) (fun xu =>
                match (A.mkn (A.on (A.len x0)) 32) with
                  | some xv => (match (A.sx 0 xv) with
                    | some xw => (l108_5t3_0 (fun xx xy xz =>
                      match (A.small (A.len (A.app xz xx)) 32) with
                        | true => (match (A.small (A.len (A.app (A.app xz xx) xy)) 32) with
                          | true => (k1 (A.app (A.app xz xx) xy))
                          | false => none)
                        | false => none) (fun x10 x11 x12 =>
                      match (A.small (A.len (A.app x12 x10)) 32) with
                        | true => (match (A.small (A.len (A.app (A.app x12 x10) x11)) 32) with
                          | true => (k1 (A.app (A.app x12 x10) x11))
                          | false => none)
                        | false => none) (fun x13 x14 x15 =>
                      match (A.small (A.len (A.app x15 x13)) 32) with
                        | true => (match (A.small (A.len (A.app (A.app x15 x13) x14)) 32) with
                          | true => (k1 (A.app (A.app x15 x13) x14))
                          | false => none)
                        | false => none) (fun x16 x17 x18 =>
                      match (A.small (A.len (A.app x18 x16)) 32) with
                        | true => (match (A.small (A.len (A.app (A.app x18 x16) x17)) 32) with
                          | true => (k1 (A.app (A.app x18 x16) x17))
                          | false => none)
                        | false => none) xj xu (A.rep xw (R.a [(R.i .i64 0), (R.i .i64 0), (R.i .i64 0), (R.i .i64 0)])))
                    | none => none)
                  | none => none))
              | none => none)))
        | none => none))
def F108_0 {β : Type} (A : Pr) (B : Pk) (N : Nat) : Nat → List R → (List R → Option β) → (List R → Option β) → Option β
  | 0, _, _, _ => none
  | n + 1, x0, k0, k1 =>
    G108_0 A B (F108_0 A B N n) (L108_5_0 A B N N) (L108_5t1_0 A B N N) (L108_5t1_1 A B N N) (L108_5t2_0 A B N N) (L108_5t2_1 A B N N) (L108_5t3_0 A B N N) (L108_5t3_1 A B N N) (L108_5t3_2 A B N N) (L108_5t3_3 A B N N) x0 k0 k1
def P30 : List PT := [(.r (.ro 4)), (.f 109 [])]
def M108_0 {β : Type} (f108_0 : List R → (List R → Option β) → (List R → Option β) → Option β) (a : List T) : Option ((T → List (List T) → Option β) → Option β) :=
  match gTs P30 a [] with
  | some [.l x0] => some fun kk => f108_0 x0 (fun x1 => kk (T.r (R.ro 4 x1)) []) (fun x2 => kk (T.own true 4 x2) [])
  | _ => none
theorem e108_0 {β : Type} (A : Pr) (B : Pk) (f108_0 : List R → (List R → Option β) → (List R → Option β) → Option β) (l108_5_0 : (List R → List R → List R → Option β) → List R → List R → List R → Option β) (l108_5t1_0 : (List R → List R → List R → Option β) → (List R → List R → List R → Option β) → List R → List R → List R → Option β) (l108_5t1_1 : (List R → List R → List R → Option β) → (List R → List R → List R → Option β) → List R → List R → List R → Option β) (l108_5t2_0 : (List R → List R → List R → Option β) → (List R → List R → List R → Option β) → List R → List R → List R → Option β) (l108_5t2_1 : (List R → List R → List R → Option β) → (List R → List R → List R → Option β) → List R → List R → List R → Option β) (l108_5t3_0 : (List R → List R → List R → Option β) → (List R → List R → List R → Option β) → (List R → List R → List R → Option β) → (List R → List R → List R → Option β) → List R → List R → List R → Option β) (l108_5t3_1 : (List R → List R → List R → Option β) → (List R → List R → List R → Option β) → (List R → List R → List R → Option β) → (List R → List R → List R → Option β) → List R → List R → List R → Option β) (l108_5t3_2 : (List R → List R → List R → Option β) → (List R → List R → List R → Option β) → (List R → List R → List R → Option β) → (List R → List R → List R → Option β) → List R → List R → List R → Option β) (l108_5t3_3 : (List R → List R → List R → Option β) → (List R → List R → List R → Option β) → (List R → List R → List R → Option β) → (List R → List R → List R → Option β) → List R → List R → List R → Option β) (x0 : List R) (kk : T → List (List T) → Option β) :
    uTs P30 [.l x0] (fun a _ => bodyK (mkK Try.prog A B [(108, M108_0 f108_0)] [(5, orM (M108_5 l108_5_0) (orM (M108_5t1 l108_5t1_0 l108_5t1_1) (orM (M108_5t2 l108_5t2_0 l108_5t2_1) (M108_5t3 l108_5t3_0 l108_5t3_1 l108_5t3_2 l108_5t3_3))))] (Hn 108).pt []) Try.f108 a kk) = G108_0 A B f108_0 l108_5_0 l108_5t1_0 l108_5t1_1 l108_5t2_0 l108_5t2_1 l108_5t3_0 l108_5t3_1 l108_5t3_2 l108_5t3_3 x0 (fun x1 => kk (T.r (R.ro 4 x1)) []) (fun x2 => kk (T.own true 4 x2) []) := by kernel_rfl
theorem o108_0 {β : Type} (N : Nat) : ∀ n, Snd (β := β) Try.prog Hn 108 (M108_0 (F108_0 re rk N n))
  | 0 => by
    intro a h kk r ha hr
    unfold M108_0 at ha
    split at ha
    · cases ha; cases hr
    · cases ha
  | n + 1 => by
    have ih := o108_0 (β := β) N n
    intro a h kk r ha hr
    unfold M108_0 at ha
    split at ha
    · rename_i hs
      cases ha
      have hk := via_pat hs ((e108_0 re rk (F108_0 re rk N n) (L108_5_0 re rk N N) (L108_5t1_0 re rk N N) (L108_5t1_1 re rk N N) (L108_5t2_0 re rk N N) (L108_5t2_1 re rk N N) (L108_5t3_0 re rk N N) (L108_5t3_1 re rk N N) (L108_5t3_2 re rk N N) (L108_5t3_3 re rk N N) _ kk).trans hr)
      exact fn_ok (f := 108) (fn := Try.f108) (H := Hn) (by kernel_rfl) (show SndAll Try.prog Hn [(108, M108_0 (F108_0 re rk N n))] from ⟨ih, trivial⟩) (spots := [.lp X108_5]) (by kernel_rfl) ⟨cut_lp (id := 5) i108_5 (orL_ok (ol108_5 N N) (orL_ok (ol108_5t1 N N) (orL_ok (ol108_5t2 N N) (ol108_5t3 N N)))) (fun s kk => by kernel_rfl), trivial⟩ hk
    · cases ha
def G83_0 {β : Type} (A : Pr) (B : Pk) (f108_0 : List R → (List R → Option β) → (List R → Option β) → Option β) (l83_3_0 : (List R → Option β) → List R → List R → Int → Int → Option β) (x0 : List R) (k0 : List R → Option β) (k1 : List R → Option β) : Option β :=
    l83_3_0 (fun x1 =>
    f108_0 x1 (fun x2 =>
      k0 x2) (fun x3 =>
      k1 x3)) [] x0 (A.on (A.len x0)) 0
def F83_0 {β : Type} (A : Pr) (B : Pk) (N : Nat) (x0 : List R) (k0 : List R → Option β) (k1 : List R → Option β) : Option β :=
  G83_0 A B (F108_0 A B N N) (L83_3_0 A B N N) x0 k0 k1
def M83_0 {β : Type} (f83_0 : List R → (List R → Option β) → (List R → Option β) → Option β) (a : List T) : Option ((T → List (List T) → Option β) → Option β) :=
  match gTs P11 a [] with
  | some [.l x0] => some fun kk => f83_0 x0 (fun x1 => kk (T.r (R.ro 4 x1)) []) (fun x2 => kk (T.own true 4 x2) [])
  | _ => none
theorem e83_0 {β : Type} (A : Pr) (B : Pk) (f108_0 : List R → (List R → Option β) → (List R → Option β) → Option β) (l83_3_0 : (List R → Option β) → List R → List R → Int → Int → Option β) (x0 : List R) (kk : T → List (List T) → Option β) :
    uTs P11 [.l x0] (fun a _ => bodyK (mkK Try.prog A B [(108, M108_0 f108_0)] [(3, M83_3 l83_3_0)] (Hn 83).pt []) Try.f83 a kk) = G83_0 A B f108_0 l83_3_0 x0 (fun x1 => kk (T.r (R.ro 4 x1)) []) (fun x2 => kk (T.own true 4 x2) []) := by kernel_rfl
theorem o83_0 {β : Type} (N : Nat) : Snd (β := β) Try.prog Hn 83 (M83_0 (F83_0 re rk N)) := by
  intro a h kk r ha hr
  unfold M83_0 at ha
  split at ha
  · rename_i hs
    cases ha
    have hk := via_pat hs ((e83_0 re rk (F108_0 re rk N N) (L83_3_0 re rk N N) _ kk).trans hr)
    exact fn_ok (f := 83) (fn := Try.f83) (H := Hn) (by kernel_rfl) (show SndAll Try.prog Hn [(108, M108_0 (F108_0 re rk N N))] from ⟨o108_0 N N, trivial⟩) (spots := [.lp X83_3]) (by kernel_rfl) ⟨cut_lp (id := 3) i83_3 (ol83_3 N N) (fun s kk => by kernel_rfl), trivial⟩ hk
  · cases ha
noncomputable def X84_3 : Code := atF Try.f84 [true, true, false, true, false, false]
theorem i84_3 : firstReg X84_3 = 3 := by kernel_rfl
def GL84_3_0 {β : Type} (A : Pr) (B : Pk) (l84_3_0 : (List R → Option β) → List R → List R → Int → Int → Option β) (k0 : List R → Option β) (x0 x1 : List R) (x2 x3 : Int) : Option β :=
    match (A.cm .lss x3 x2) with
    | true => (match (A.ix x3 (A.len x1)) with
      | some x4 => (match (B.okE [(Sh.sl 1 (Sh.i .i64)), (Sh.sl 1 (Sh.i .i64))] true x1 x4) with
        | true => (match (A.ix x3 (A.len x0)) with
          | some x5 => (match (B.okC [(Sh.i .i64)] x0 x5 0) with
            | true => (l84_3_0 k0 (B.upd x0 x5 0 (R.i .i64 (A.ar .sub .i64 (A.on (A.len (B.cl x1 x4 0))) 1))) x1 x2 (A.ar .add .i64 x3 1))
            | false => none)
          | none => none)
        | false => none)
      | none => none)
    | false => (k0 x0)
def L84_3_0 {β : Type} (A : Pr) (B : Pk) (N : Nat) : Nat → (List R → Option β) → List R → List R → Int → Int → Option β
  | 0, _, _, _, _, _ => none
  | n + 1, k0, x0, x1, x2, x3 =>
    GL84_3_0 A B (L84_3_0 A B N n) k0 x0 x1 x2 x3
def P31 : List PT := [.us 3, (.own true 1), .us 21]
def S31 (x0 : List R) : List T := [T.u, T.u, T.u, (T.own true 1 x0), T.u, T.u, T.u, T.u, T.u, T.u, T.u, T.u, T.u, T.u, T.u, T.u, T.u, T.u, T.u, T.u, T.u, T.u, T.u, T.u, T.u]
def P32 : List PT := [.us 3, (.own true 1), .us 5, (.r (.ro 2)), pI, pI, .us 13]
noncomputable def M84_3 {β : Type} (l84_3_0 : (List R → Option β) → List R → List R → Int → Int → Option β) (s : List T) : Option ((Ex → List T → Option β) → Option β) :=
  match gTs P32 (clean ((Hn 84).lp 3).1 s) [] with
  | some [.l x0, .l x1, .i x2, .i x3] => some fun kk => l84_3_0 (fun x4 => kk (Ex.ex 0) (S31 x4)) x0 x1 x2 x3
  | _ => none
theorem e84_3_0 {β : Type} (A : Pr) (B : Pk) (l84_3_0 : (List R → Option β) → List R → List R → Int → Int → Option β) (x0 x1 : List R) (x2 x3 : Int) (kk : Ex → List T → Option β) :
    uTs P32 [.l x0, .l x1, .i x2, .i x3] (fun s _ => evK (mkK Try.prog A B [] [] (Hn 84).pt []) X84_3 s (fun e s' => match e with
      | .nm => (match M84_3 l84_3_0 s' with | some h => h kk | none => none)
      | .ex m => kk (.ex m) (clean ((Hn 84).lp (firstReg X84_3)).2 s')
      | .rt => kk .rt (clean ((Hn 84).lp (firstReg X84_3)).2 s'))) = GL84_3_0 A B l84_3_0 (fun x4 => kk (Ex.ex 0) (S31 x4)) x0 x1 x2 x3 := by kernel_rfl
theorem ol84_3 {β : Type} (N : Nat) : ∀ n, SndL (β := β) Try.prog Hn (Hn 84) X84_3 (M84_3 (L84_3_0 re rk N n))
  | 0 => by
    intro s h kk r ha hr
    unfold M84_3 at ha
    split at ha
    · cases ha; cases hr
    · cases ha
  | n + 1 => by
    have ih := ol84_3 (β := β) N n
    intro s h kk r ha hr
    unfold M84_3 at ha
    split at ha
    · rename_i hs
      cases ha
      have hk := via_pat hs ((e84_3_0 re rk (L84_3_0 re rk N n) _ _ _ _ kk).trans hr)
      exact round_ok (show SndAll Try.prog Hn [] from trivial) (spots := []) (by kernel_rfl) trivial ih (hd := clean ((Hn 84).lp 3).1 s) (by rw [i84_3]) hk
    · cases ha
def G84_0 {β : Type} (A : Pr) (B : Pk) (l84_3_0 : (List R → Option β) → List R → List R → Int → Int → Option β) (x0 : List R) (k0 : List R → Option β) : Option β :=
    match (A.mkn (A.on (A.len x0)) 8) with
    | some x1 => (match (A.sx (A.on (A.len x0)) x1) with
      | some x2 => (l84_3_0 (fun x3 =>
        k0 x3) (A.rep x2 (R.i .i64 0)) x0 (A.on (A.len x0)) 0)
      | none => none)
    | none => none
def F84_0 {β : Type} (A : Pr) (B : Pk) (N : Nat) (x0 : List R) (k0 : List R → Option β) : Option β :=
  G84_0 A B (L84_3_0 A B N N) x0 k0
def M84_0 {β : Type} (f84_0 : List R → (List R → Option β) → Option β) (a : List T) : Option ((T → List (List T) → Option β) → Option β) :=
  match gTs P11 a [] with
  | some [.l x0] => some fun kk => f84_0 x0 (fun x1 => kk (T.own true 1 x1) [])
  | _ => none
theorem e84_0 {β : Type} (A : Pr) (B : Pk) (l84_3_0 : (List R → Option β) → List R → List R → Int → Int → Option β) (x0 : List R) (kk : T → List (List T) → Option β) :
    uTs P11 [.l x0] (fun a _ => bodyK (mkK Try.prog A B [] [(3, M84_3 l84_3_0)] (Hn 84).pt []) Try.f84 a kk) = G84_0 A B l84_3_0 x0 (fun x1 => kk (T.own true 1 x1) []) := by kernel_rfl
theorem o84_0 {β : Type} (N : Nat) : Snd (β := β) Try.prog Hn 84 (M84_0 (F84_0 re rk N)) := by
  intro a h kk r ha hr
  unfold M84_0 at ha
  split at ha
  · rename_i hs
    cases ha
    have hk := via_pat hs ((e84_0 re rk (L84_3_0 re rk N N) _ kk).trans hr)
    exact fn_ok (f := 84) (fn := Try.f84) (H := Hn) (by kernel_rfl) (show SndAll Try.prog Hn [] from trivial) (spots := [.lp X84_3]) (by kernel_rfl) ⟨cut_lp (id := 3) i84_3 (ol84_3 N N) (fun s kk => by kernel_rfl), trivial⟩ hk
  · cases ha
noncomputable def X85_3 : Code := atF Try.f85 [true, true, false, true, false, false]
theorem i85_3 : firstReg X85_3 = 3 := by kernel_rfl
def GL85_3_0 {β : Type} (A : Pr) (B : Pk) (l85_3_0 : (Int → List R → Option β) → Int → List R → List R → Int → Int → Option β) (k0 : Int → List R → Option β) (x0 : Int) (x1 x2 : List R) (x3 x4 : Int) : Option β :=
    match (A.cm .lss x4 x3) with
    | true => (match (A.ix x4 (A.len x2)) with
      | some x5 => (match (B.okE [(Sh.i .i64), (Sh.i .i64), (Sh.i .i64), (Sh.i .i64)] true x2 x5) with
        | true => (match (A.cm .gtr (B.ci x2 x5 3) x0) with
          | true => (k0 x0 x1)
          | false => (match (A.ix (B.ci x2 x5 0) (A.len x1)) with
            | some x6 => (match (B.okC [(Sh.i .i64)] x1 x6 0) with
              | true => (l85_3_0 k0 (A.ar .sub .i64 x0 (B.ci x2 x5 3)) (B.upd x1 x6 0 (R.i .i64 (B.ci x2 x5 1))) x2 x3 (A.ar .add .i64 x4 1))
              | false => none)
            | none => none))
        | false => none)
      | none => none)
    | false => (k0 x0 x1)
def L85_3_0 {β : Type} (A : Pr) (B : Pk) (N : Nat) : Nat → (Int → List R → Option β) → Int → List R → List R → Int → Int → Option β
  | 0, _, _, _, _, _, _ => none
  | n + 1, k0, x0, x1, x2, x3, x4 =>
    GL85_3_0 A B (L85_3_0 A B N n) k0 x0 x1 x2 x3 x4
def P33 : List PT := [.us 2, pI, .us 4, (.own true 1), .us 27]
def S33 (x0 : Int) (x1 : List R) : List T := (T.u :: T.u :: (tI x0) :: T.u :: T.u :: T.u :: T.u :: (T.own true 1 x1) :: T.u :: T.u :: T.u :: T.u :: T.u :: T.u :: T.u :: T.u :: T.u :: T.u :: T.u :: T.u :: T.u :: T.u :: T.u :: T.u :: T.u :: T.u :: T.u :: T.u :: T.u :: T.u :: T.u :: T.u :: T.u :: T.u :: T.u :: [])
def P34 : List PT := [.us 2, pI, .us 4, (.own true 1), .us 5, (.r (.ro 4)), pI, pI, .us 19]
noncomputable def M85_3 {β : Type} (l85_3_0 : (Int → List R → Option β) → Int → List R → List R → Int → Int → Option β) (s : List T) : Option ((Ex → List T → Option β) → Option β) :=
  match gTs P34 (clean ((Hn 85).lp 3).1 s) [] with
  | some [.i x0, .l x1, .l x2, .i x3, .i x4] => some fun kk => l85_3_0 (fun x5 x6 => kk (Ex.ex 0) (S33 x5 x6)) x0 x1 x2 x3 x4
  | _ => none
theorem e85_3_0 {β : Type} (A : Pr) (B : Pk) (l85_3_0 : (Int → List R → Option β) → Int → List R → List R → Int → Int → Option β) (x0 : Int) (x1 x2 : List R) (x3 x4 : Int) (kk : Ex → List T → Option β) :
    uTs P34 [.i x0, .l x1, .l x2, .i x3, .i x4] (fun s _ => evK (mkK Try.prog A B [] [] (Hn 85).pt []) X85_3 s (fun e s' => match e with
      | .nm => (match M85_3 l85_3_0 s' with | some h => h kk | none => none)
      | .ex m => kk (.ex m) (clean ((Hn 85).lp (firstReg X85_3)).2 s')
      | .rt => kk .rt (clean ((Hn 85).lp (firstReg X85_3)).2 s'))) = GL85_3_0 A B l85_3_0 (fun x5 x6 => kk (Ex.ex 0) (S33 x5 x6)) x0 x1 x2 x3 x4 := by kernel_rfl
theorem ol85_3 {β : Type} (N : Nat) : ∀ n, SndL (β := β) Try.prog Hn (Hn 85) X85_3 (M85_3 (L85_3_0 re rk N n))
  | 0 => by
    intro s h kk r ha hr
    unfold M85_3 at ha
    split at ha
    · cases ha; cases hr
    · cases ha
  | n + 1 => by
    have ih := ol85_3 (β := β) N n
    intro s h kk r ha hr
    unfold M85_3 at ha
    split at ha
    · rename_i hs
      cases ha
      have hk := via_pat hs ((e85_3_0 re rk (L85_3_0 re rk N n) _ _ _ _ _ kk).trans hr)
      exact round_ok (show SndAll Try.prog Hn [] from trivial) (spots := []) (by kernel_rfl) trivial ih (hd := clean ((Hn 85).lp 3).1 s) (by rw [i85_3]) hk
    · cases ha
def G85_0 {β : Type} (A : Pr) (B : Pk) (l85_3_0 : (Int → List R → Option β) → Int → List R → List R → Int → Int → Option β) (x0 x1 : List R) (x2 : Int) (k0 : List R → Option β) : Option β :=
    match (A.mkn (A.on (A.len x0)) 8) with
    | some x3 => (match (A.sx (A.on (A.len x0)) x3) with
      | some x4 => (l85_3_0 (fun x5 x6 =>
        k0 x6) x2 (A.rep x4 (R.i .i64 0)) x1 (A.on (A.len x1)) 0)
      | none => none)
    | none => none
def F85_0 {β : Type} (A : Pr) (B : Pk) (N : Nat) (x0 x1 : List R) (x2 : Int) (k0 : List R → Option β) : Option β :=
  G85_0 A B (L85_3_0 A B N N) x0 x1 x2 k0
def P35 : List PT := [(.r (.ro 2)), (.r (.ro 4)), pI]
def M85_0 {β : Type} (f85_0 : List R → List R → Int → (List R → Option β) → Option β) (a : List T) : Option ((T → List (List T) → Option β) → Option β) :=
  match gTs P35 a [] with
  | some [.l x0, .l x1, .i x2] => some fun kk => f85_0 x0 x1 x2 (fun x3 => kk (T.own true 1 x3) [])
  | _ => none
theorem e85_0 {β : Type} (A : Pr) (B : Pk) (l85_3_0 : (Int → List R → Option β) → Int → List R → List R → Int → Int → Option β) (x0 x1 : List R) (x2 : Int) (kk : T → List (List T) → Option β) :
    uTs P35 [.l x0, .l x1, .i x2] (fun a _ => bodyK (mkK Try.prog A B [] [(3, M85_3 l85_3_0)] (Hn 85).pt []) Try.f85 a kk) = G85_0 A B l85_3_0 x0 x1 x2 (fun x3 => kk (T.own true 1 x3) []) := by kernel_rfl
theorem o85_0 {β : Type} (N : Nat) : Snd (β := β) Try.prog Hn 85 (M85_0 (F85_0 re rk N)) := by
  intro a h kk r ha hr
  unfold M85_0 at ha
  split at ha
  · rename_i hs
    cases ha
    have hk := via_pat hs ((e85_0 re rk (L85_3_0 re rk N N) _ _ _ kk).trans hr)
    exact fn_ok (f := 85) (fn := Try.f85) (H := Hn) (by kernel_rfl) (show SndAll Try.prog Hn [] from trivial) (spots := [.lp X85_3]) (by kernel_rfl) ⟨cut_lp (id := 3) i85_3 (ol85_3 N N) (fun s kk => by kernel_rfl), trivial⟩ hk
  · cases ha
noncomputable def X53_16 : Code := atF Try.f53 [true, true, true, true, true, true, false, true, false, false]
theorem i53_16 : firstReg X53_16 = 16 := by kernel_rfl
def GL53_16_0 {β : Type} (A : Pr) (B : Pk) (f84_0 : List R → (List R → Option β) → Option β) (f85_0 : List R → List R → Int → (List R → Option β) → Option β) (l53_16_0 : (List R → List R → Option β) → List R → List R → List R → List R → Int → Int → Option β) (k0 : List R → List R → Option β) (x0 x1 x2 x3 : List R) (x4 x5 : Int) : Option β :=
    match (A.cm .lss x5 x4) with
    | true => (match (A.ix x5 (A.len x3)) with
      | some x6 => (match (B.okE [(Sh.i .i64)] false x3 x6) with
        | true => (match (A.cm .eql (B.ci x3 x6 0) (-1)) with
          | true => (f84_0 x0 (fun x7 =>
            match (A.small (A.len (A.app x2 [(R.ro 1 x7)])) 24) with
              | true => (l53_16_0 k0 x0 x1 (A.app x2 [(R.ro 1 x7)]) x3 x4 (A.ar .add .i64 x5 1))
              | false => none))
          | false => (f85_0 x0 x1 (B.ci x3 x6 0) (fun x8 =>
            match (A.small (A.len (A.app x2 [(R.ro 1 x8)])) 24) with
              | true => (l53_16_0 k0 x0 x1 (A.app x2 [(R.ro 1 x8)]) x3 x4 (A.ar .add .i64 x5 1))
              | false => none)))
        | false => none)
      | none => none)
    | false => (k0 x0 x2)
def L53_16_0 {β : Type} (A : Pr) (B : Pk) (N : Nat) : Nat → (List R → List R → Option β) → List R → List R → List R → List R → Int → Int → Option β
  | 0, _, _, _, _, _, _, _ => none
  | n + 1, k0, x0, x1, x2, x3, x4, x5 =>
    GL53_16_0 A B (F84_0 A B N) (F85_0 A B N) (L53_16_0 A B N n) k0 x0 x1 x2 x3 x4 x5
def P36 : List PT := [(.r (.ro 2)), .us 10, (.own false 1), .us 79]
def S36 (x0 x1 : List R) : List T := ((T.r (R.ro 2 x0)) :: T.u :: T.u :: T.u :: T.u :: T.u :: T.u :: T.u :: T.u :: T.u :: T.u :: (T.own false 1 x1) :: T.u :: T.u :: T.u :: T.u :: T.u :: T.u :: T.u :: T.u :: T.u :: T.u :: T.u :: T.u :: T.u :: T.u :: T.u :: T.u :: T.u :: T.u :: T.u :: T.u :: T.u :: T.u :: T.u :: T.u :: T.u :: T.u :: T.u :: T.u :: T.u :: T.u :: T.u :: T.u :: T.u :: T.u :: T.u :: T.u :: T.u :: T.u :: T.u :: T.u :: T.u :: T.u :: T.u :: T.u :: T.u :: T.u :: T.u :: T.u :: T.u :: T.u :: T.u :: T.u :: T.u :: T.u :: T.u :: T.u :: T.u :: T.u :: T.u :: T.u :: T.u :: T.u :: T.u :: T.u :: T.u :: T.u :: T.u :: T.u :: T.u :: T.u :: T.u :: T.u :: T.u :: T.u :: T.u :: T.u :: T.u :: T.u :: T.u :: [])
def P37 : List PT := [(.r (.ro 2)), .us 9, (.r (.ro 4)), (.own false 1), .us 57, (.r (.ro 1)), pI, pI, .us 19]
noncomputable def M53_16 {β : Type} (l53_16_0 : (List R → List R → Option β) → List R → List R → List R → List R → Int → Int → Option β) (s : List T) : Option ((Ex → List T → Option β) → Option β) :=
  match gTs P37 (clean ((Hn 53).lp 16).1 s) [] with
  | some [.l x0, .l x1, .l x2, .l x3, .i x4, .i x5] => some fun kk => l53_16_0 (fun x6 x7 => kk (Ex.ex 2) (S36 x6 x7)) x0 x1 x2 x3 x4 x5
  | _ => none
theorem e53_16_0 {β : Type} (A : Pr) (B : Pk) (f84_0 : List R → (List R → Option β) → Option β) (f85_0 : List R → List R → Int → (List R → Option β) → Option β) (l53_16_0 : (List R → List R → Option β) → List R → List R → List R → List R → Int → Int → Option β) (x0 x1 x2 x3 : List R) (x4 x5 : Int) (kk : Ex → List T → Option β) :
    uTs P37 [.l x0, .l x1, .l x2, .l x3, .i x4, .i x5] (fun s _ => evK (mkK Try.prog A B [(84, M84_0 f84_0), (85, M85_0 f85_0)] [] (Hn 53).pt []) X53_16 s (fun e s' => match e with
      | .nm => (match M53_16 l53_16_0 s' with | some h => h kk | none => none)
      | .ex m => kk (.ex m) (clean ((Hn 53).lp (firstReg X53_16)).2 s')
      | .rt => kk .rt (clean ((Hn 53).lp (firstReg X53_16)).2 s'))) = GL53_16_0 A B f84_0 f85_0 l53_16_0 (fun x6 x7 => kk (Ex.ex 2) (S36 x6 x7)) x0 x1 x2 x3 x4 x5 := by kernel_rfl
theorem ol53_16 {β : Type} (N : Nat) : ∀ n, SndL (β := β) Try.prog Hn (Hn 53) X53_16 (M53_16 (L53_16_0 re rk N n))
  | 0 => by
    intro s h kk r ha hr
    unfold M53_16 at ha
    split at ha
    · cases ha; cases hr
    · cases ha
  | n + 1 => by
    have ih := ol53_16 (β := β) N n
    intro s h kk r ha hr
    unfold M53_16 at ha
    split at ha
    · rename_i hs
      cases ha
      have hk := via_pat hs ((e53_16_0 re rk (F84_0 re rk N) (F85_0 re rk N) (L53_16_0 re rk N n) _ _ _ _ _ _ kk).trans hr)
      exact round_ok (show SndAll Try.prog Hn [(84, M84_0 (F84_0 re rk N)), (85, M85_0 (F85_0 re rk N))] from ⟨o84_0 N, o85_0 N, trivial⟩) (spots := []) (by kernel_rfl) trivial ih (hd := clean ((Hn 53).lp 16).1 s) (by rw [i53_16]) hk
    · cases ha
def GL53_16t1_0 {β : Type} (A : Pr) (B : Pk) (f84_0 : List R → (List R → Option β) → Option β) (f85_0 : List R → List R → Int → (List R → Option β) → Option β) (l53_16t1_0 : (List R → List R → Option β) → List R → List R → List R → List R → Int → Int → Option β) (l53_16t1_1 : (List R → List R → Option β) → List R → List R → List R → List R → Int → Int → Option β) (k0 : List R → List R → Option β) (x0 x1 x2 x3 : List R) (x4 x5 : Int) : Option β :=
    match (A.cm .lss x5 x4) with
    | true => (match (A.ix x5 (A.len x3)) with
      | some x6 => (match (B.okE [(Sh.i .i64)] false x3 x6) with
        | true => (match (A.cm .eql (B.ci x3 x6 0) (-1)) with
          | true => (f84_0 x0 (fun x7 =>
            match (A.small (A.len (A.app x2 [(R.ro 1 x7)])) 24) with
              | true => (l53_16t1_0 k0 x0 x1 (A.app x2 [(R.ro 1 x7)]) x3 x4 (A.ar .add .i64 x5 1))
              | false => none))
          | false => (f85_0 x0 x1 (B.ci x3 x6 0) (fun x8 =>
            match (A.small (A.len (A.app x2 [(R.ro 1 x8)])) 24) with
              | true => (l53_16t1_1 k0 x0 x1 (A.app x2 [(R.ro 1 x8)]) x3 x4 (A.ar .add .i64 x5 1))
              | false => none)))
        | false => none)
      | none => none)
    | false => (k0 x0 x2)
def GL53_16t1_1 {β : Type} (A : Pr) (B : Pk) (f84_0 : List R → (List R → Option β) → Option β) (f85_0 : List R → List R → Int → (List R → Option β) → Option β) (l53_16t1_0 : (List R → List R → Option β) → List R → List R → List R → List R → Int → Int → Option β) (l53_16t1_1 : (List R → List R → Option β) → List R → List R → List R → List R → Int → Int → Option β) (k0 : List R → List R → Option β) (x0 x1 x2 x3 : List R) (x4 x5 : Int) : Option β :=
    match (A.cm .lss x5 x4) with
    | true => (match (A.ix x5 (A.len x3)) with
      | some x6 => (match (B.okE [(Sh.i .i64)] false x3 x6) with
        | true => (match (A.cm .eql (B.ci x3 x6 0) (-1)) with
          | true => (f84_0 x0 (fun x7 =>
            match (A.small (A.len (A.app x2 [(R.ro 1 x7)])) 24) with
              | true => (l53_16t1_1 k0 x0 x1 (A.app x2 [(R.ro 1 x7)]) x3 x4 (A.ar .add .i64 x5 1))
              | false => none))
          | false => (f85_0 x0 x1 (B.ci x3 x6 0) (fun x8 =>
            match (A.small (A.len (A.app x2 [(R.ro 1 x8)])) 24) with
              | true => (l53_16t1_1 k0 x0 x1 (A.app x2 [(R.ro 1 x8)]) x3 x4 (A.ar .add .i64 x5 1))
              | false => none)))
        | false => none)
      | none => none)
    | false => (k0 x0 x2)
mutual
def L53_16t1_0 {β : Type} (A : Pr) (B : Pk) (N : Nat) : Nat → (List R → List R → Option β) → List R → List R → List R → List R → Int → Int → Option β
  | 0, _, _, _, _, _, _, _ => none
  | n + 1, k0, x0, x1, x2, x3, x4, x5 =>
    GL53_16t1_0 A B (F84_0 A B N) (F85_0 A B N) (L53_16t1_0 A B N n) (L53_16t1_1 A B N n) k0 x0 x1 x2 x3 x4 x5
def L53_16t1_1 {β : Type} (A : Pr) (B : Pk) (N : Nat) : Nat → (List R → List R → Option β) → List R → List R → List R → List R → Int → Int → Option β
  | 0, _, _, _, _, _, _, _ => none
  | n + 1, k0, x0, x1, x2, x3, x4, x5 =>
    GL53_16t1_1 A B (F84_0 A B N) (F85_0 A B N) (L53_16t1_0 A B N n) (L53_16t1_1 A B N n) k0 x0 x1 x2 x3 x4 x5
end
def P38 : List PT := [(.r (.ro 2)), .us 9, (.own true 4), (.own false 1), .us 57, (.r (.ro 1)), pI, pI, .us 19]
noncomputable def M53_16t1 {β : Type} (l53_16t1_0 : (List R → List R → Option β) → List R → List R → List R → List R → Int → Int → Option β) (l53_16t1_1 : (List R → List R → Option β) → List R → List R → List R → List R → Int → Int → Option β) (s : List T) : Option ((Ex → List T → Option β) → Option β) :=
  match gTs P38 (clean ((Hn 53).lp 16).1 s) [] with
  | some [.l x0, .l x1, .l x2, .l x3, .i x4, .i x5] => some fun kk => l53_16t1_0 (fun x6 x7 => kk (Ex.ex 2) (S36 x6 x7)) x0 x1 x2 x3 x4 x5
  | _ => (match gTs P37 (clean ((Hn 53).lp 16).1 s) [] with
  | some [.l x8, .l x9, .l xa, .l xb, .i xc, .i xd] => some fun kk => l53_16t1_1 (fun x6 x7 => kk (Ex.ex 2) (S36 x6 x7)) x8 x9 xa xb xc xd
  | _ => none)
theorem e53_16t1_0 {β : Type} (A : Pr) (B : Pk) (f84_0 : List R → (List R → Option β) → Option β) (f85_0 : List R → List R → Int → (List R → Option β) → Option β) (l53_16t1_0 : (List R → List R → Option β) → List R → List R → List R → List R → Int → Int → Option β) (l53_16t1_1 : (List R → List R → Option β) → List R → List R → List R → List R → Int → Int → Option β) (x0 x1 x2 x3 : List R) (x4 x5 : Int) (kk : Ex → List T → Option β) :
    uTs P38 [.l x0, .l x1, .l x2, .l x3, .i x4, .i x5] (fun s _ => evK (mkK Try.prog A B [(84, M84_0 f84_0), (85, M85_0 f85_0)] [] (Hn 53).pt []) X53_16 s (fun e s' => match e with
      | .nm => (match M53_16t1 l53_16t1_0 l53_16t1_1 s' with | some h => h kk | none => none)
      | .ex m => kk (.ex m) (clean ((Hn 53).lp (firstReg X53_16)).2 s')
      | .rt => kk .rt (clean ((Hn 53).lp (firstReg X53_16)).2 s'))) = GL53_16t1_0 A B f84_0 f85_0 l53_16t1_0 l53_16t1_1 (fun x6 x7 => kk (Ex.ex 2) (S36 x6 x7)) x0 x1 x2 x3 x4 x5 := by kernel_rfl
theorem e53_16t1_1 {β : Type} (A : Pr) (B : Pk) (f84_0 : List R → (List R → Option β) → Option β) (f85_0 : List R → List R → Int → (List R → Option β) → Option β) (l53_16t1_0 : (List R → List R → Option β) → List R → List R → List R → List R → Int → Int → Option β) (l53_16t1_1 : (List R → List R → Option β) → List R → List R → List R → List R → Int → Int → Option β) (x0 x1 x2 x3 : List R) (x4 x5 : Int) (kk : Ex → List T → Option β) :
    uTs P37 [.l x0, .l x1, .l x2, .l x3, .i x4, .i x5] (fun s _ => evK (mkK Try.prog A B [(84, M84_0 f84_0), (85, M85_0 f85_0)] [] (Hn 53).pt []) X53_16 s (fun e s' => match e with
      | .nm => (match M53_16t1 l53_16t1_0 l53_16t1_1 s' with | some h => h kk | none => none)
      | .ex m => kk (.ex m) (clean ((Hn 53).lp (firstReg X53_16)).2 s')
      | .rt => kk .rt (clean ((Hn 53).lp (firstReg X53_16)).2 s'))) = GL53_16t1_1 A B f84_0 f85_0 l53_16t1_0 l53_16t1_1 (fun x6 x7 => kk (Ex.ex 2) (S36 x6 x7)) x0 x1 x2 x3 x4 x5 := by kernel_rfl
theorem ol53_16t1 {β : Type} (N : Nat) : ∀ n, SndL (β := β) Try.prog Hn (Hn 53) X53_16 (M53_16t1 (L53_16t1_0 re rk N n) (L53_16t1_1 re rk N n))
  | 0 => by
    intro s h kk r ha hr
    unfold M53_16t1 at ha
    split at ha
    · cases ha; cases hr
    · split at ha
      · cases ha; cases hr
      · cases ha
  | n + 1 => by
    have ih := ol53_16t1 (β := β) N n
    intro s h kk r ha hr
    unfold M53_16t1 at ha
    split at ha
    · rename_i hs
      cases ha
      have hk := via_pat hs ((e53_16t1_0 re rk (F84_0 re rk N) (F85_0 re rk N) (L53_16t1_0 re rk N n) (L53_16t1_1 re rk N n) _ _ _ _ _ _ kk).trans hr)
      exact round_ok (show SndAll Try.prog Hn [(84, M84_0 (F84_0 re rk N)), (85, M85_0 (F85_0 re rk N))] from ⟨o84_0 N, o85_0 N, trivial⟩) (spots := []) (by kernel_rfl) trivial ih (hd := clean ((Hn 53).lp 16).1 s) (by rw [i53_16]) hk
    · split at ha
      · rename_i hs
        cases ha
        have hk := via_pat hs ((e53_16t1_1 re rk (F84_0 re rk N) (F85_0 re rk N) (L53_16t1_0 re rk N n) (L53_16t1_1 re rk N n) _ _ _ _ _ _ kk).trans hr)
        exact round_ok (show SndAll Try.prog Hn [(84, M84_0 (F84_0 re rk N)), (85, M85_0 (F85_0 re rk N))] from ⟨o84_0 N, o85_0 N, trivial⟩) (spots := []) (by kernel_rfl) trivial ih (hd := clean ((Hn 53).lp 16).1 s) (by rw [i53_16]) hk
      · cases ha
def G53_0 {β : Type} (A : Pr) (B : Pk) (f82_0 : List R → (Int → Option β) → Option β) (f83_0 : List R → (List R → Option β) → (List R → Option β) → Option β) (l53_7_0 : (List R → List R → List R → Int → Option β) → (List R → List R → Option β) → List R → List R → List R → Int → Int → Option β) (l53_16_0 : (List R → List R → Option β) → List R → List R → List R → List R → Int → Int → Option β) (l53_16t1_0 : (List R → List R → Option β) → List R → List R → List R → List R → Int → Int → Option β) (l53_16t1_1 : (List R → List R → Option β) → List R → List R → List R → List R → Int → Int → Option β) (x0 x1 : List R) (k0 : List R → Int → Option β) : Option β :=
    match (A.cm .gtr (A.on (A.len x0)) 65536) with
    | true => (k0 [] 5)
    | false => (match (A.cm .gtr (A.on (A.len x1)) 16) with
      | true => (k0 [] 5)
      | false => (f82_0 x0 (fun x2 =>
        match (A.cm .neq x2 0) with
          | true => (k0 [] x2)
          | false => (l53_7_0 (fun x3 x4 x5 x6 =>
            k0 x5 x6) (fun x7 x8 =>
            f83_0 x7 (fun x9 =>
              l53_16_0 (fun xa xb =>
                k0 xb 0) x7 x9 [] x8 (A.on (A.len x8)) 0) (fun xc =>
              l53_16t1_0 (fun xd xe =>
                k0 xe 0) x7 xc [] x8 (A.on (A.len x8)) 0)) x0 x1 x1 (A.on (A.len x1)) 0))))
def F53_0 {β : Type} (A : Pr) (B : Pk) (N : Nat) (x0 x1 : List R) (k0 : List R → Int → Option β) : Option β :=
  G53_0 A B (F82_0 A B N) (F83_0 A B N) (L53_7_0 A B N N) (L53_16_0 A B N N) (L53_16t1_0 A B N N) (L53_16t1_1 A B N N) x0 x1 k0
def M53_0 {β : Type} (f53_0 : List R → List R → (List R → Int → Option β) → Option β) (a : List T) : Option ((T → List (List T) → Option β) → Option β) :=
  match gTs P3 a [] with
  | some [.l x0, .l x1] => some fun kk => f53_0 x0 x1 (fun x2 x3 => kk (T.tp true [(T.own false 1 x2), (tI x3)]) [])
  | _ => none
theorem e53_0 {β : Type} (A : Pr) (B : Pk) (f82_0 : List R → (Int → Option β) → Option β) (f83_0 : List R → (List R → Option β) → (List R → Option β) → Option β) (l53_7_0 : (List R → List R → List R → Int → Option β) → (List R → List R → Option β) → List R → List R → List R → Int → Int → Option β) (l53_16_0 : (List R → List R → Option β) → List R → List R → List R → List R → Int → Int → Option β) (l53_16t1_0 : (List R → List R → Option β) → List R → List R → List R → List R → Int → Int → Option β) (l53_16t1_1 : (List R → List R → Option β) → List R → List R → List R → List R → Int → Int → Option β) (x0 x1 : List R) (kk : T → List (List T) → Option β) :
    uTs P3 [.l x0, .l x1] (fun a _ => bodyK (mkK Try.prog A B [(82, M82_0 f82_0), (83, M83_0 f83_0)] [(7, M53_7 l53_7_0), (16, orM (M53_16 l53_16_0) (M53_16t1 l53_16t1_0 l53_16t1_1))] (Hn 53).pt []) Try.f53 a kk) = G53_0 A B f82_0 f83_0 l53_7_0 l53_16_0 l53_16t1_0 l53_16t1_1 x0 x1 (fun x2 x3 => kk (T.tp true [(T.own false 1 x2), (tI x3)]) []) := by kernel_rfl
theorem o53_0 {β : Type} (N : Nat) : Snd (β := β) Try.prog Hn 53 (M53_0 (F53_0 re rk N)) := by
  intro a h kk r ha hr
  unfold M53_0 at ha
  split at ha
  · rename_i hs
    cases ha
    have hk := via_pat hs ((e53_0 re rk (F82_0 re rk N) (F83_0 re rk N) (L53_7_0 re rk N N) (L53_16_0 re rk N N) (L53_16t1_0 re rk N N) (L53_16t1_1 re rk N N) _ _ kk).trans hr)
    exact fn_ok (f := 53) (fn := Try.f53) (H := Hn) (by kernel_rfl) (show SndAll Try.prog Hn [(82, M82_0 (F82_0 re rk N)), (83, M83_0 (F83_0 re rk N))] from ⟨o82_0 N, o83_0 N, trivial⟩) (spots := [.lp X53_7, .lp X53_16]) (by kernel_rfl) ⟨cut_lp (id := 7) i53_7 (ol53_7 N N) (fun s kk => by kernel_rfl), cut_lp (id := 16) i53_16 (orL_ok (ol53_16 N N) (ol53_16t1 N N)) (fun s kk => by kernel_rfl), trivial⟩ hk
  · cases ha
def G27_0 {β : Type} (A : Pr) (B : Pk) (f53_0 : List R → List R → (List R → Int → Option β) → Option β) (x0 x1 : List R) (k0 : List R → Int → Option β) : Option β :=
    f53_0 x0 x1 (fun x2 x3 =>
    k0 x2 x3)
def F27_0 {β : Type} (A : Pr) (B : Pk) (N : Nat) (x0 x1 : List R) (k0 : List R → Int → Option β) : Option β :=
  G27_0 A B (F53_0 A B N) x0 x1 k0
def M27_0 {β : Type} (f27_0 : List R → List R → (List R → Int → Option β) → Option β) (a : List T) : Option ((T → List (List T) → Option β) → Option β) :=
  match gTs P3 a [] with
  | some [.l x0, .l x1] => some fun kk => f27_0 x0 x1 (fun x2 x3 => kk (T.tp true [(T.own false 1 x2), (tI x3)]) [])
  | _ => none
theorem e27_0 {β : Type} (A : Pr) (B : Pk) (f53_0 : List R → List R → (List R → Int → Option β) → Option β) (x0 x1 : List R) (kk : T → List (List T) → Option β) :
    uTs P3 [.l x0, .l x1] (fun a _ => bodyK (mkK Try.prog A B [(53, M53_0 f53_0)] [] (Hn 27).pt []) Try.f27 a kk) = G27_0 A B f53_0 x0 x1 (fun x2 x3 => kk (T.tp true [(T.own false 1 x2), (tI x3)]) []) := by kernel_rfl
theorem o27_0 {β : Type} (N : Nat) : Snd (β := β) Try.prog Hn 27 (M27_0 (F27_0 re rk N)) := by
  intro a h kk r ha hr
  unfold M27_0 at ha
  split at ha
  · rename_i hs
    cases ha
    have hk := via_pat hs ((e27_0 re rk (F53_0 re rk N) _ _ kk).trans hr)
    exact fn_ok (f := 27) (fn := Try.f27) (H := Hn) (by kernel_rfl) (show SndAll Try.prog Hn [(53, M53_0 (F53_0 re rk N))] from ⟨o53_0 N, trivial⟩) (spots := []) (by kernel_rfl) trivial hk
  · cases ha
noncomputable def X87_5 : Code := atF Try.f87 [true, true, true, false, true, false, false]
theorem i87_5 : firstReg X87_5 = 5 := by kernel_rfl
def GL87_5_0 {β : Type} (A : Pr) (B : Pk) (l87_5_0 : (Bool → Option β) → (Option β) → List R → List R → Int → Int → Option β) (k0 : Bool → Option β) (k1 : Option β) (x0 x1 : List R) (x2 x3 : Int) : Option β :=
    match (A.cm .lss x3 x2) with
    | true => (match (A.ix x3 (A.len x0)) with
      | some x4 => (match (B.okE [(Sh.i .i64)] false x0 x4) with
        | true => (match (A.cm .lss (B.ci x0 x4 0) 0) with
          | true => (k0 false)
          | false => (match (A.ix x3 (A.len x0)) with
            | some x5 => (match (B.okE [(Sh.i .i64)] false x0 x5) with
              | true => (match (A.cm .gtr (B.ci x0 x5 0) 65535) with
                | true => (k0 false)
                | false => (match (A.ix x3 (A.len x1)) with
                  | some x6 => (match (B.okE [(Sh.i .i64)] false x1 x6) with
                    | true => (match (A.cm .lss (B.ci x1 x6 0) 0) with
                      | true => (k0 false)
                      | false => (match (A.ix x3 (A.len x1)) with
                        | some x7 => (match (B.okE [(Sh.i .i64)] false x1 x7) with
                          | true => (match (A.cm .gtr (B.ci x1 x7 0) 70368744177664) with
                            | true => (k0 false)
                            | false => (match (A.cm .gtr x3 0) with
                              | true => (match (A.ix x3 (A.len x0)) with
                                | some x8 => (match (B.okE [(Sh.i .i64)] false x0 x8) with
                                  | true => (match (A.ix (A.ar .sub .i64 x3 1) (A.len x0)) with
                                    | some x9 => (match (B.okE [(Sh.i .i64)] false x0 x9) with
                                      | true => (match (A.cm .lss (B.ci x0 x8 0) (B.ci x0 x9 0)) with
                                        | true => (k0 false)
                                        | false => (l87_5_0 k0 k1 x0 x1 x2 (A.ar .add .i64 x3 1)))
                                      | false => none)
                                    | none => none)
                                  | false => none)
                                | none => none)
                              | false => (l87_5_0 k0 k1 x0 x1 x2 (A.ar .add .i64 x3 1))))
                          | false => none)
                        | none => none))
                    | false => none)
                  | none => none))
              | false => none)
            | none => none))
        | false => none)
      | none => none)
    | false => k1
def L87_5_0 {β : Type} (A : Pr) (B : Pk) (N : Nat) : Nat → (Bool → Option β) → (Option β) → List R → List R → Int → Int → Option β
  | 0, _, _, _, _, _, _ => none
  | n + 1, k0, k1, x0, x1, x2, x3 =>
    GL87_5_0 A B (L87_5_0 A B N n) k0 k1 x0 x1 x2 x3
def P39 : List PT := [.us 2, pB, .us 76]
def S39 (x0 : Bool) : List T := (T.u :: T.u :: (tB x0) :: T.u :: T.u :: T.u :: T.u :: T.u :: T.u :: T.u :: T.u :: T.u :: T.u :: T.u :: T.u :: T.u :: T.u :: T.u :: T.u :: T.u :: T.u :: T.u :: T.u :: T.u :: T.u :: T.u :: T.u :: T.u :: T.u :: T.u :: T.u :: T.u :: T.u :: T.u :: T.u :: T.u :: T.u :: T.u :: T.u :: T.u :: T.u :: T.u :: T.u :: T.u :: T.u :: T.u :: T.u :: T.u :: T.u :: T.u :: T.u :: T.u :: T.u :: T.u :: T.u :: T.u :: T.u :: T.u :: T.u :: T.u :: T.u :: T.u :: T.u :: T.u :: T.u :: T.u :: T.u :: T.u :: T.u :: T.u :: T.u :: T.u :: T.u :: T.u :: T.u :: T.u :: T.u :: T.u :: T.u :: [])
def P40 : List PT := [.us 79]
def S40  : List T := (T.u :: T.u :: T.u :: T.u :: T.u :: T.u :: T.u :: T.u :: T.u :: T.u :: T.u :: T.u :: T.u :: T.u :: T.u :: T.u :: T.u :: T.u :: T.u :: T.u :: T.u :: T.u :: T.u :: T.u :: T.u :: T.u :: T.u :: T.u :: T.u :: T.u :: T.u :: T.u :: T.u :: T.u :: T.u :: T.u :: T.u :: T.u :: T.u :: T.u :: T.u :: T.u :: T.u :: T.u :: T.u :: T.u :: T.u :: T.u :: T.u :: T.u :: T.u :: T.u :: T.u :: T.u :: T.u :: T.u :: T.u :: T.u :: T.u :: T.u :: T.u :: T.u :: T.u :: T.u :: T.u :: T.u :: T.u :: T.u :: T.u :: T.u :: T.u :: T.u :: T.u :: T.u :: T.u :: T.u :: T.u :: T.u :: T.u :: [])
def P41 : List PT := [.us 1, (.bx [(.r (.ro 1)), (.r (.ro 1))]), .us 1, pI, pI, .us 74]
noncomputable def M87_5 {β : Type} (l87_5_0 : (Bool → Option β) → (Option β) → List R → List R → Int → Int → Option β) (s : List T) : Option ((Ex → List T → Option β) → Option β) :=
  match gTs P41 (clean ((Hn 87).lp 5).1 s) [] with
  | some [.l x0, .l x1, .i x2, .i x3] => some fun kk => l87_5_0 (fun x4 => kk Ex.rt (S39 x4)) (kk (Ex.ex 0) (S40)) x0 x1 x2 x3
  | _ => none
theorem e87_5_0 {β : Type} (A : Pr) (B : Pk) (l87_5_0 : (Bool → Option β) → (Option β) → List R → List R → Int → Int → Option β) (x0 x1 : List R) (x2 x3 : Int) (kk : Ex → List T → Option β) :
    uTs P41 [.l x0, .l x1, .i x2, .i x3] (fun s _ => evK (mkK Try.prog A B [] [] (Hn 87).pt []) X87_5 s (fun e s' => match e with
      | .nm => (match M87_5 l87_5_0 s' with | some h => h kk | none => none)
      | .ex m => kk (.ex m) (clean ((Hn 87).lp (firstReg X87_5)).2 s')
      | .rt => kk .rt (clean ((Hn 87).lp (firstReg X87_5)).2 s'))) = GL87_5_0 A B l87_5_0 (fun x4 => kk Ex.rt (S39 x4)) (kk (Ex.ex 0) (S40)) x0 x1 x2 x3 := by kernel_rfl
theorem ol87_5 {β : Type} (N : Nat) : ∀ n, SndL (β := β) Try.prog Hn (Hn 87) X87_5 (M87_5 (L87_5_0 re rk N n))
  | 0 => by
    intro s h kk r ha hr
    unfold M87_5 at ha
    split at ha
    · cases ha; cases hr
    · cases ha
  | n + 1 => by
    have ih := ol87_5 (β := β) N n
    intro s h kk r ha hr
    unfold M87_5 at ha
    split at ha
    · rename_i hs
      cases ha
      have hk := via_pat hs ((e87_5_0 re rk (L87_5_0 re rk N n) _ _ _ _ kk).trans hr)
      exact round_ok (show SndAll Try.prog Hn [] from trivial) (spots := []) (by kernel_rfl) trivial ih (hd := clean ((Hn 87).lp 5).1 s) (by rw [i87_5]) hk
    · cases ha
def G87_0 {β : Type} (A : Pr) (B : Pk) (l87_5_0 : (Bool → Option β) → (Option β) → List R → List R → Int → Int → Option β) (x0 x1 : List R) (k0 : Bool → Option β) : Option β :=
    match (A.cm .lss (A.on (A.len x0)) 1) with
    | true => (k0 false)
    | false => (match (A.cm .gtr (A.on (A.len x0)) 179) with
      | true => (k0 false)
      | false => (match (A.cm .neq (A.on (A.len x1)) (A.on (A.len x0))) with
        | true => (k0 false)
        | false => (match (A.ix 0 (A.len x0)) with
          | some x2 => (match (B.okE [(Sh.i .i64)] false x0 x2) with
            | true => (match (A.cm .neq (B.ci x0 x2 0) 0) with
              | true => (k0 false)
              | false => (l87_5_0 (fun x3 =>
                k0 x3) (k0 true) x0 x1 (A.on (A.len x0)) 0))
            | false => none)
          | none => none)))
def F87_0 {β : Type} (A : Pr) (B : Pk) (N : Nat) (x0 x1 : List R) (k0 : Bool → Option β) : Option β :=
  G87_0 A B (L87_5_0 A B N N) x0 x1 k0
def M87_0 {β : Type} (f87_0 : List R → List R → (Bool → Option β) → Option β) (a : List T) : Option ((T → List (List T) → Option β) → Option β) :=
  match gTs P7 a [] with
  | some [.l x0, .l x1] => some fun kk => f87_0 x0 x1 (fun x2 => kk (tB x2) [])
  | _ => none
theorem e87_0 {β : Type} (A : Pr) (B : Pk) (l87_5_0 : (Bool → Option β) → (Option β) → List R → List R → Int → Int → Option β) (x0 x1 : List R) (kk : T → List (List T) → Option β) :
    uTs P7 [.l x0, .l x1] (fun a _ => bodyK (mkK Try.prog A B [] [(5, M87_5 l87_5_0)] (Hn 87).pt []) Try.f87 a kk) = G87_0 A B l87_5_0 x0 x1 (fun x2 => kk (tB x2) []) := by kernel_rfl
theorem o87_0 {β : Type} (N : Nat) : Snd (β := β) Try.prog Hn 87 (M87_0 (F87_0 re rk N)) := by
  intro a h kk r ha hr
  unfold M87_0 at ha
  split at ha
  · rename_i hs
    cases ha
    have hk := via_pat hs ((e87_0 re rk (L87_5_0 re rk N N) _ _ kk).trans hr)
    exact fn_ok (f := 87) (fn := Try.f87) (H := Hn) (by kernel_rfl) (show SndAll Try.prog Hn [] from trivial) (spots := [.lp X87_5]) (by kernel_rfl) ⟨cut_lp (id := 5) i87_5 (ol87_5 N N) (fun s kk => by kernel_rfl), trivial⟩ hk
  · cases ha
noncomputable def X55_4 : Code := atF Try.f55 [true, true, false, true, false, false]
theorem i55_4 : firstReg X55_4 = 4 := by kernel_rfl
def GL55_4_0 {β : Type} (A : Pr) (B : Pk) (f87_0 : List R → List R → (Bool → Option β) → Option β) (l55_4_0 : (Int → Option β) → (Option β) → List R → Int → Int → Option β) (k0 : Int → Option β) (k1 : Option β) (x0 : List R) (x1 x2 : Int) : Option β :=
    match (A.cm .lss x2 x1) with
    | true => (match (A.ix x2 (A.len x0)) with
      | some x3 => (match (B.okE [(Sh.sl 1 (Sh.i .i64)), (Sh.sl 1 (Sh.i .i64))] true x0 x3) with
        | true => (f87_0 (B.cl x0 x3 0) (B.cl x0 x3 1) (fun x4 =>
          match (A.bn x4) with
            | true => (k0 1)
            | false => (l55_4_0 k0 k1 x0 x1 (A.ar .add .i64 x2 1))))
        | false => none)
      | none => none)
    | false => k1
def L55_4_0 {β : Type} (A : Pr) (B : Pk) (N : Nat) : Nat → (Int → Option β) → (Option β) → List R → Int → Int → Option β
  | 0, _, _, _, _, _ => none
  | n + 1, k0, k1, x0, x1, x2 =>
    GL55_4_0 A B (F87_0 A B N) (L55_4_0 A B N n) k0 k1 x0 x1 x2
noncomputable def M55_4 {β : Type} (l55_4_0 : (Int → Option β) → (Option β) → List R → Int → Int → Option β) (s : List T) : Option ((Ex → List T → Option β) → Option β) :=
  match gTs P10 (clean ((Hn 55).lp 4).1 s) [] with
  | some [.l x0, .i x1, .i x2] => some fun kk => l55_4_0 (fun x3 => kk Ex.rt (S8 x3)) (kk (Ex.ex 0) (S9)) x0 x1 x2
  | _ => none
theorem e55_4_0 {β : Type} (A : Pr) (B : Pk) (f87_0 : List R → List R → (Bool → Option β) → Option β) (l55_4_0 : (Int → Option β) → (Option β) → List R → Int → Int → Option β) (x0 : List R) (x1 x2 : Int) (kk : Ex → List T → Option β) :
    uTs P10 [.l x0, .i x1, .i x2] (fun s _ => evK (mkK Try.prog A B [(87, M87_0 f87_0)] [] (Hn 55).pt []) X55_4 s (fun e s' => match e with
      | .nm => (match M55_4 l55_4_0 s' with | some h => h kk | none => none)
      | .ex m => kk (.ex m) (clean ((Hn 55).lp (firstReg X55_4)).2 s')
      | .rt => kk .rt (clean ((Hn 55).lp (firstReg X55_4)).2 s'))) = GL55_4_0 A B f87_0 l55_4_0 (fun x3 => kk Ex.rt (S8 x3)) (kk (Ex.ex 0) (S9)) x0 x1 x2 := by kernel_rfl
theorem ol55_4 {β : Type} (N : Nat) : ∀ n, SndL (β := β) Try.prog Hn (Hn 55) X55_4 (M55_4 (L55_4_0 re rk N n))
  | 0 => by
    intro s h kk r ha hr
    unfold M55_4 at ha
    split at ha
    · cases ha; cases hr
    · cases ha
  | n + 1 => by
    have ih := ol55_4 (β := β) N n
    intro s h kk r ha hr
    unfold M55_4 at ha
    split at ha
    · rename_i hs
      cases ha
      have hk := via_pat hs ((e55_4_0 re rk (F87_0 re rk N) (L55_4_0 re rk N n) _ _ _ kk).trans hr)
      exact round_ok (show SndAll Try.prog Hn [(87, M87_0 (F87_0 re rk N))] from ⟨o87_0 N, trivial⟩) (spots := []) (by kernel_rfl) trivial ih (hd := clean ((Hn 55).lp 4).1 s) (by rw [i55_4]) hk
    · cases ha
def G55_0 {β : Type} (A : Pr) (B : Pk) (l55_4_0 : (Int → Option β) → (Option β) → List R → Int → Int → Option β) (x0 : List R) (k0 : Int → Option β) : Option β :=
    match (A.cm .gtr (A.on (A.len x0)) 65536) with
    | true => (k0 5)
    | false => (l55_4_0 (fun x1 =>
      k0 x1) (k0 0) x0 (A.on (A.len x0)) 0)
def F55_0 {β : Type} (A : Pr) (B : Pk) (N : Nat) (x0 : List R) (k0 : Int → Option β) : Option β :=
  G55_0 A B (L55_4_0 A B N N) x0 k0
def M55_0 {β : Type} (f55_0 : List R → (Int → Option β) → Option β) (a : List T) : Option ((T → List (List T) → Option β) → Option β) :=
  match gTs P11 a [] with
  | some [.l x0] => some fun kk => f55_0 x0 (fun x1 => kk (tI x1) [])
  | _ => none
theorem e55_0 {β : Type} (A : Pr) (B : Pk) (l55_4_0 : (Int → Option β) → (Option β) → List R → Int → Int → Option β) (x0 : List R) (kk : T → List (List T) → Option β) :
    uTs P11 [.l x0] (fun a _ => bodyK (mkK Try.prog A B [] [(4, M55_4 l55_4_0)] (Hn 55).pt []) Try.f55 a kk) = G55_0 A B l55_4_0 x0 (fun x1 => kk (tI x1) []) := by kernel_rfl
theorem o55_0 {β : Type} (N : Nat) : Snd (β := β) Try.prog Hn 55 (M55_0 (F55_0 re rk N)) := by
  intro a h kk r ha hr
  unfold M55_0 at ha
  split at ha
  · rename_i hs
    cases ha
    have hk := via_pat hs ((e55_0 re rk (L55_4_0 re rk N N) _ kk).trans hr)
    exact fn_ok (f := 55) (fn := Try.f55) (H := Hn) (by kernel_rfl) (show SndAll Try.prog Hn [] from trivial) (spots := [.lp X55_4]) (by kernel_rfl) ⟨cut_lp (id := 4) i55_4 (ol55_4 N N) (fun s kk => by kernel_rfl), trivial⟩ hk
  · cases ha
noncomputable def X54_7 : Code := atF Try.f54 [true, true, true, false, true, false, false]
theorem i54_7 : firstReg X54_7 = 7 := by kernel_rfl
def GL54_7_0 {β : Type} (A : Pr) (B : Pk) (l54_7_0 : (List R → List R → List R → Int → Option β) → (List R → List R → Option β) → List R → List R → List R → Int → Int → Option β) (k0 : List R → List R → List R → Int → Option β) (k1 : List R → List R → Option β) (x0 x1 x2 : List R) (x3 x4 : Int) : Option β :=
    match (A.cm .lss x4 x3) with
    | true => (match (A.ix x4 (A.len x2)) with
      | some x5 => (match (B.okE [(Sh.i .i64)] false x2 x5) with
        | true => (match (A.cm .lss (B.ci x2 x5 0) (-1)) with
          | true => (k0 x0 x1 [] 2)
          | false => (match (A.cm .eql (B.ci x2 x5 0) (-1)) with
            | true => (match (A.cm .lss x4 (A.ar .sub .i64 (A.on (A.len x1)) 1)) with
              | true => (k0 x0 x1 [] 2)
              | false => (match (A.cm .geq (B.ci x2 x5 0) 0) with
                | true => (match (A.cm .gtr x4 0) with
                  | true => (match (A.ix (A.ar .sub .i64 x4 1) (A.len x1)) with
                    | some x6 => (match (B.okE [(Sh.i .i64)] false x1 x6) with
                      | true => (match (A.cm .lss (B.ci x2 x5 0) (B.ci x1 x6 0)) with
                        | true => (k0 x0 x1 [] 2)
                        | false => (l54_7_0 k0 k1 x0 x1 x2 x3 (A.ar .add .i64 x4 1)))
                      | false => none)
                    | none => none)
                  | false => (l54_7_0 k0 k1 x0 x1 x2 x3 (A.ar .add .i64 x4 1)))
                | false => (l54_7_0 k0 k1 x0 x1 x2 x3 (A.ar .add .i64 x4 1))))
            | false => (match (A.cm .geq (B.ci x2 x5 0) 0) with
              | true => (match (A.cm .gtr x4 0) with
                | true => (match (A.ix (A.ar .sub .i64 x4 1) (A.len x1)) with
                  | some x7 => (match (B.okE [(Sh.i .i64)] false x1 x7) with
                    | true => (match (A.cm .lss (B.ci x2 x5 0) (B.ci x1 x7 0)) with
                      | true => (k0 x0 x1 [] 2)
                      | false => (l54_7_0 k0 k1 x0 x1 x2 x3 (A.ar .add .i64 x4 1)))
                    | false => none)
                  | none => none)
                | false => (l54_7_0 k0 k1 x0 x1 x2 x3 (A.ar .add .i64 x4 1)))
              | false => (l54_7_0 k0 k1 x0 x1 x2 x3 (A.ar .add .i64 x4 1)))))
        | false => none)
      | none => none)
    | false => (k1 x0 x1)
def L54_7_0 {β : Type} (A : Pr) (B : Pk) (N : Nat) : Nat → (List R → List R → List R → Int → Option β) → (List R → List R → Option β) → List R → List R → List R → Int → Int → Option β
  | 0, _, _, _, _, _, _, _ => none
  | n + 1, k0, k1, x0, x1, x2, x3, x4 =>
    GL54_7_0 A B (L54_7_0 A B N n) k0 k1 x0 x1 x2 x3 x4
def P42 : List PT := [(.r (.ro 2)), (.r (.ro 1)), .us 2, (.own false 1), pI, .us 72]
def S42 (x0 x1 x2 : List R) (x3 : Int) : List T := ((T.r (R.ro 2 x0)) :: (T.r (R.ro 1 x1)) :: T.u :: T.u :: (T.own false 1 x2) :: (tI x3) :: T.u :: T.u :: T.u :: T.u :: T.u :: T.u :: T.u :: T.u :: T.u :: T.u :: T.u :: T.u :: T.u :: T.u :: T.u :: T.u :: T.u :: T.u :: T.u :: T.u :: T.u :: T.u :: T.u :: T.u :: T.u :: T.u :: T.u :: T.u :: T.u :: T.u :: T.u :: T.u :: T.u :: T.u :: T.u :: T.u :: T.u :: T.u :: T.u :: T.u :: T.u :: T.u :: T.u :: T.u :: T.u :: T.u :: T.u :: T.u :: T.u :: T.u :: T.u :: T.u :: T.u :: T.u :: T.u :: T.u :: T.u :: T.u :: T.u :: T.u :: T.u :: T.u :: T.u :: T.u :: T.u :: T.u :: T.u :: T.u :: T.u :: T.u :: T.u :: T.u :: [])
def P43 : List PT := [(.r (.ro 2)), (.r (.ro 1)), .us 76]
def S43 (x0 x1 : List R) : List T := ((T.r (R.ro 2 x0)) :: (T.r (R.ro 1 x1)) :: T.u :: T.u :: T.u :: T.u :: T.u :: T.u :: T.u :: T.u :: T.u :: T.u :: T.u :: T.u :: T.u :: T.u :: T.u :: T.u :: T.u :: T.u :: T.u :: T.u :: T.u :: T.u :: T.u :: T.u :: T.u :: T.u :: T.u :: T.u :: T.u :: T.u :: T.u :: T.u :: T.u :: T.u :: T.u :: T.u :: T.u :: T.u :: T.u :: T.u :: T.u :: T.u :: T.u :: T.u :: T.u :: T.u :: T.u :: T.u :: T.u :: T.u :: T.u :: T.u :: T.u :: T.u :: T.u :: T.u :: T.u :: T.u :: T.u :: T.u :: T.u :: T.u :: T.u :: T.u :: T.u :: T.u :: T.u :: T.u :: T.u :: T.u :: T.u :: T.u :: T.u :: T.u :: T.u :: T.u :: [])
def P44 : List PT := [(.r (.ro 2)), (.r (.ro 1)), .us 20, (.r (.ro 1)), pI, pI, .us 53]
noncomputable def M54_7 {β : Type} (l54_7_0 : (List R → List R → List R → Int → Option β) → (List R → List R → Option β) → List R → List R → List R → Int → Int → Option β) (s : List T) : Option ((Ex → List T → Option β) → Option β) :=
  match gTs P44 (clean ((Hn 54).lp 7).1 s) [] with
  | some [.l x0, .l x1, .l x2, .i x3, .i x4] => some fun kk => l54_7_0 (fun x5 x6 x7 x8 => kk Ex.rt (S42 x5 x6 x7 x8)) (fun x9 xa => kk (Ex.ex 0) (S43 x9 xa)) x0 x1 x2 x3 x4
  | _ => none
theorem e54_7_0 {β : Type} (A : Pr) (B : Pk) (l54_7_0 : (List R → List R → List R → Int → Option β) → (List R → List R → Option β) → List R → List R → List R → Int → Int → Option β) (x0 x1 x2 : List R) (x3 x4 : Int) (kk : Ex → List T → Option β) :
    uTs P44 [.l x0, .l x1, .l x2, .i x3, .i x4] (fun s _ => evK (mkK Try.prog A B [] [] (Hn 54).pt []) X54_7 s (fun e s' => match e with
      | .nm => (match M54_7 l54_7_0 s' with | some h => h kk | none => none)
      | .ex m => kk (.ex m) (clean ((Hn 54).lp (firstReg X54_7)).2 s')
      | .rt => kk .rt (clean ((Hn 54).lp (firstReg X54_7)).2 s'))) = GL54_7_0 A B l54_7_0 (fun x5 x6 x7 x8 => kk Ex.rt (S42 x5 x6 x7 x8)) (fun x9 xa => kk (Ex.ex 0) (S43 x9 xa)) x0 x1 x2 x3 x4 := by kernel_rfl
theorem ol54_7 {β : Type} (N : Nat) : ∀ n, SndL (β := β) Try.prog Hn (Hn 54) X54_7 (M54_7 (L54_7_0 re rk N n))
  | 0 => by
    intro s h kk r ha hr
    unfold M54_7 at ha
    split at ha
    · cases ha; cases hr
    · cases ha
  | n + 1 => by
    have ih := ol54_7 (β := β) N n
    intro s h kk r ha hr
    unfold M54_7 at ha
    split at ha
    · rename_i hs
      cases ha
      have hk := via_pat hs ((e54_7_0 re rk (L54_7_0 re rk N n) _ _ _ _ _ kk).trans hr)
      exact round_ok (show SndAll Try.prog Hn [] from trivial) (spots := []) (by kernel_rfl) trivial ih (hd := clean ((Hn 54).lp 7).1 s) (by rw [i54_7]) hk
    · cases ha
noncomputable def X86_9 : Code := atF Try.f86 [true, true, true, true, false, true, false, false, true, false, false]
theorem i86_9 : firstReg X86_9 = 9 := by kernel_rfl
def GL86_9_0 {β : Type} (A : Pr) (B : Pk) (l86_9_0 : (List R → Option β) → List R → List R → Int → Int → Option β) (k0 : List R → Option β) (x0 x1 : List R) (x2 x3 : Int) : Option β :=
    match (A.cm .lss x3 x2) with
    | true => (match (A.ix x3 (A.len x1)) with
      | some x4 => (match (B.okE [(Sh.sl 1 (Sh.i .i64)), (Sh.sl 1 (Sh.i .i64))] true x1 x4) with
        | true => (match (A.ix x3 (A.len x0)) with
          | some x5 => (match (B.okC [(Sh.i .i64)] x0 x5 0) with
            | true => (l86_9_0 k0 (B.upd x0 x5 0 (R.i .i64 (A.ar .sub .i64 (A.on (A.len (B.cl x1 x4 0))) 1))) x1 x2 (A.ar .add .i64 x3 1))
            | false => none)
          | none => none)
        | false => none)
      | none => none)
    | false => (k0 x0)
def L86_9_0 {β : Type} (A : Pr) (B : Pk) (N : Nat) : Nat → (List R → Option β) → List R → List R → Int → Int → Option β
  | 0, _, _, _, _, _ => none
  | n + 1, k0, x0, x1, x2, x3 =>
    GL86_9_0 A B (L86_9_0 A B N n) k0 x0 x1 x2 x3
def P45 : List PT := [.us 7, (.own true 1), .us 58]
def S45 (x0 : List R) : List T := (T.u :: T.u :: T.u :: T.u :: T.u :: T.u :: T.u :: (T.own true 1 x0) :: T.u :: T.u :: T.u :: T.u :: T.u :: T.u :: T.u :: T.u :: T.u :: T.u :: T.u :: T.u :: T.u :: T.u :: T.u :: T.u :: T.u :: T.u :: T.u :: T.u :: T.u :: T.u :: T.u :: T.u :: T.u :: T.u :: T.u :: T.u :: T.u :: T.u :: T.u :: T.u :: T.u :: T.u :: T.u :: T.u :: T.u :: T.u :: T.u :: T.u :: T.u :: T.u :: T.u :: T.u :: T.u :: T.u :: T.u :: T.u :: T.u :: T.u :: T.u :: T.u :: T.u :: T.u :: T.u :: T.u :: T.u :: T.u :: [])
def P46 : List PT := [.us 7, (.own true 1), .us 17, (.r (.ro 2)), pI, pI, .us 38]
noncomputable def M86_9 {β : Type} (l86_9_0 : (List R → Option β) → List R → List R → Int → Int → Option β) (s : List T) : Option ((Ex → List T → Option β) → Option β) :=
  match gTs P46 (clean ((Hn 86).lp 9).1 s) [] with
  | some [.l x0, .l x1, .i x2, .i x3] => some fun kk => l86_9_0 (fun x4 => kk (Ex.ex 0) (S45 x4)) x0 x1 x2 x3
  | _ => none
theorem e86_9_0 {β : Type} (A : Pr) (B : Pk) (l86_9_0 : (List R → Option β) → List R → List R → Int → Int → Option β) (x0 x1 : List R) (x2 x3 : Int) (kk : Ex → List T → Option β) :
    uTs P46 [.l x0, .l x1, .i x2, .i x3] (fun s _ => evK (mkK Try.prog A B [] [] (Hn 86).pt []) X86_9 s (fun e s' => match e with
      | .nm => (match M86_9 l86_9_0 s' with | some h => h kk | none => none)
      | .ex m => kk (.ex m) (clean ((Hn 86).lp (firstReg X86_9)).2 s')
      | .rt => kk .rt (clean ((Hn 86).lp (firstReg X86_9)).2 s'))) = GL86_9_0 A B l86_9_0 (fun x4 => kk (Ex.ex 0) (S45 x4)) x0 x1 x2 x3 := by kernel_rfl
theorem ol86_9 {β : Type} (N : Nat) : ∀ n, SndL (β := β) Try.prog Hn (Hn 86) X86_9 (M86_9 (L86_9_0 re rk N n))
  | 0 => by
    intro s h kk r ha hr
    unfold M86_9 at ha
    split at ha
    · cases ha; cases hr
    · cases ha
  | n + 1 => by
    have ih := ol86_9 (β := β) N n
    intro s h kk r ha hr
    unfold M86_9 at ha
    split at ha
    · rename_i hs
      cases ha
      have hk := via_pat hs ((e86_9_0 re rk (L86_9_0 re rk N n) _ _ _ _ kk).trans hr)
      exact round_ok (show SndAll Try.prog Hn [] from trivial) (spots := []) (by kernel_rfl) trivial ih (hd := clean ((Hn 86).lp 9).1 s) (by rw [i86_9]) hk
    · cases ha
def G136_0 {β : Type} (A : Pr) (B : Pk) (x0 x1 : Int) (k0 : Bool → Option β) : Option β :=
    match (A.cm .leq 0 x0) with
    | true => (match (A.cm .leq x0 70368744177664) with
      | true => (match (A.cm .leq 0 x1) with
        | true => (k0 (A.cm .leq x1 65535))
        | false => (k0 false))
      | false => (k0 false))
    | false => (k0 false)
def F136_0 {β : Type} (A : Pr) (B : Pk) (N : Nat) (x0 x1 : Int) (k0 : Bool → Option β) : Option β :=
  G136_0 A B  x0 x1 k0
def M136_0 {β : Type} (f136_0 : Int → Int → (Bool → Option β) → Option β) (a : List T) : Option ((T → List (List T) → Option β) → Option β) :=
  match gTs P15 a [] with
  | some [.i x0, .i x1] => some fun kk => f136_0 x0 x1 (fun x2 => kk (tB x2) [])
  | _ => none
theorem e136_0 {β : Type} (A : Pr) (B : Pk) (x0 x1 : Int) (kk : T → List (List T) → Option β) :
    uTs P15 [.i x0, .i x1] (fun a _ => bodyK (mkK Try.prog A B [] [] (Hn 136).pt []) Try.f136 a kk) = G136_0 A B  x0 x1 (fun x2 => kk (tB x2) []) := by kernel_rfl
theorem o136_0 {β : Type} (N : Nat) : Snd (β := β) Try.prog Hn 136 (M136_0 (F136_0 re rk N)) := by
  intro a h kk r ha hr
  unfold M136_0 at ha
  split at ha
  · rename_i hs
    cases ha
    have hk := via_pat hs ((e136_0 re rk  _ _ kk).trans hr)
    exact fn_ok (f := 136) (fn := Try.f136) (H := Hn) (by kernel_rfl) (show SndAll Try.prog Hn [] from trivial) (spots := []) (by kernel_rfl) trivial hk
  · cases ha
def G128_0 {β : Type} (A : Pr) (B : Pk) (f136_0 : Int → Int → (Bool → Option β) → Option β) (x0 x1 x2 x3 : Int) (k0 : Int → Option β) : Option β :=
    f136_0 x0 x1 (fun x4 =>
    match (A.bn x4) with
      | true => (k0 0)
      | false => (f136_0 x2 x3 (fun x5 =>
        match (A.bn x5) with
          | true => (k0 0)
          | false => (match (A.cm .eql x1 0) with
            | true => (match (A.cm .eql x3 0) with
              | true => (match (A.cm .gtr x0 0) with
                | true => (match (A.cm .gtr x2 0) with
                  | true => (k0 0)
                  | false => (match (A.cm .gtr x0 0) with
                    | true => (k0 1)
                    | false => (match (A.cm .gtr x2 0) with
                      | true => (k0 (-1))
                      | false => (match (A.cm .gtr (A.ar .mul .i64 x0 (A.mx x3 1)) (A.ar .mul .i64 x2 (A.mx x1 1))) with
                        | true => (k0 1)
                        | false => (match (A.cm .lss (A.ar .mul .i64 x0 (A.mx x3 1)) (A.ar .mul .i64 x2 (A.mx x1 1))) with
                          | true => (k0 (-1))
                          | false => (k0 0))))))
                | false => (match (A.cm .gtr x0 0) with
                  | true => (k0 1)
                  | false => (match (A.cm .gtr x2 0) with
                    | true => (k0 (-1))
                    | false => (match (A.cm .gtr (A.ar .mul .i64 x0 (A.mx x3 1)) (A.ar .mul .i64 x2 (A.mx x1 1))) with
                      | true => (k0 1)
                      | false => (match (A.cm .lss (A.ar .mul .i64 x0 (A.mx x3 1)) (A.ar .mul .i64 x2 (A.mx x1 1))) with
                        | true => (k0 (-1))
                        | false => (k0 0))))))
              | false => (match (A.cm .gtr x0 0) with
                | true => (match (A.cm .gtr x0 0) with
                  | true => (k0 1)
                  | false => (match (A.cm .gtr (A.ar .mul .i64 x0 (A.mx x3 1)) (A.ar .mul .i64 x2 (A.mx x1 1))) with
                    | true => (k0 1)
                    | false => (match (A.cm .lss (A.ar .mul .i64 x0 (A.mx x3 1)) (A.ar .mul .i64 x2 (A.mx x1 1))) with
                      | true => (k0 (-1))
                      | false => (k0 0))))
                | false => (match (A.cm .gtr x0 0) with
                  | true => (k0 1)
                  | false => (match (A.cm .gtr (A.ar .mul .i64 x0 (A.mx x3 1)) (A.ar .mul .i64 x2 (A.mx x1 1))) with
                    | true => (k0 1)
                    | false => (match (A.cm .lss (A.ar .mul .i64 x0 (A.mx x3 1)) (A.ar .mul .i64 x2 (A.mx x1 1))) with
                      | true => (k0 (-1))
                      | false => (k0 0))))))
            | false => (match (A.cm .eql x3 0) with
              | true => (match (A.cm .gtr x2 0) with
                | true => (k0 (-1))
                | false => (match (A.cm .gtr (A.ar .mul .i64 x0 (A.mx x3 1)) (A.ar .mul .i64 x2 (A.mx x1 1))) with
                  | true => (k0 1)
                  | false => (match (A.cm .lss (A.ar .mul .i64 x0 (A.mx x3 1)) (A.ar .mul .i64 x2 (A.mx x1 1))) with
                    | true => (k0 (-1))
                    | false => (k0 0))))
              | false => (match (A.cm .gtr (A.ar .mul .i64 x0 (A.mx x3 1)) (A.ar .mul .i64 x2 (A.mx x1 1))) with
                | true => (k0 1)
                | false => (match (A.cm .lss (A.ar .mul .i64 x0 (A.mx x3 1)) (A.ar .mul .i64 x2 (A.mx x1 1))) with
                  | true => (k0 (-1))
                  | false => (k0 0))))))))
def F128_0 {β : Type} (A : Pr) (B : Pk) (N : Nat) (x0 x1 x2 x3 : Int) (k0 : Int → Option β) : Option β :=
  G128_0 A B (F136_0 A B N) x0 x1 x2 x3 k0
def M128_0 {β : Type} (f128_0 : Int → Int → Int → Int → (Int → Option β) → Option β) (a : List T) : Option ((T → List (List T) → Option β) → Option β) :=
  match gTs P16 a [] with
  | some [.i x0, .i x1, .i x2, .i x3] => some fun kk => f128_0 x0 x1 x2 x3 (fun x4 => kk (tI x4) [])
  | _ => none
theorem e128_0 {β : Type} (A : Pr) (B : Pk) (f136_0 : Int → Int → (Bool → Option β) → Option β) (x0 x1 x2 x3 : Int) (kk : T → List (List T) → Option β) :
    uTs P16 [.i x0, .i x1, .i x2, .i x3] (fun a _ => bodyK (mkK Try.prog A B [(136, M136_0 f136_0)] [] (Hn 128).pt []) Try.f128 a kk) = G128_0 A B f136_0 x0 x1 x2 x3 (fun x4 => kk (tI x4) []) := by kernel_rfl
theorem o128_0 {β : Type} (N : Nat) : Snd (β := β) Try.prog Hn 128 (M128_0 (F128_0 re rk N)) := by
  intro a h kk r ha hr
  unfold M128_0 at ha
  split at ha
  · rename_i hs
    cases ha
    have hk := via_pat hs ((e128_0 re rk (F136_0 re rk N) _ _ _ _ kk).trans hr)
    exact fn_ok (f := 128) (fn := Try.f128) (H := Hn) (by kernel_rfl) (show SndAll Try.prog Hn [(136, M136_0 (F136_0 re rk N))] from ⟨o136_0 N, trivial⟩) (spots := []) (by kernel_rfl) trivial hk
  · cases ha
noncomputable def X135_3 : Code := atF Try.f135 [true, true, false, true, false, false]
theorem i135_3 : firstReg X135_3 = 3 := by kernel_rfl
def GL135_3_0 {β : Type} (A : Pr) (B : Pk) (f128_0 : Int → Int → Int → Int → (Int → Option β) → Option β) (l135_3_0 : (Int → Int → Option β) → Int → List R → List R → Int → Int → Option β) (k0 : Int → Int → Option β) (x0 : Int) (x1 x2 : List R) (x3 x4 : Int) : Option β :=
    match (A.cm .lss x4 (A.on (A.len x1))) with
    | true => (match (A.ix x4 (A.len x2)) with
      | some x5 => (match (B.okE [(Sh.i .i64)] false x2 x5) with
        | true => (match (A.ix x0 (A.len x2)) with
          | some x6 => (match (B.okE [(Sh.i .i64)] false x2 x6) with
            | true => (match (A.cm .geq (B.ci x2 x5 0) (B.ci x2 x6 0)) with
              | true => (l135_3_0 k0 x0 x1 x2 x3 (A.ar .add .i64 x4 1))
              | false => (match (A.cm .lss x3 0) with
                | true => (l135_3_0 k0 x0 x1 x2 x4 (A.ar .add .i64 x4 1))
                | false => (match (A.ix x0 (A.len x2)) with
                  | some x7 => (match (B.okE [(Sh.i .i64)] false x2 x7) with
                    | true => (match (A.ix x4 (A.len x2)) with
                      | some x8 => (match (B.okE [(Sh.i .i64)] false x2 x8) with
                        | true => (match (A.ix x4 (A.len x1)) with
                          | some x9 => (match (B.okE [(Sh.i .i64)] false x1 x9) with
                            | true => (match (A.ix x0 (A.len x1)) with
                              | some xa => (match (B.okE [(Sh.i .i64)] false x1 xa) with
                                | true => (match (A.ix x0 (A.len x2)) with
                                  | some xb => (match (B.okE [(Sh.i .i64)] false x2 xb) with
                                    | true => (match (A.ix x3 (A.len x2)) with
                                      | some xc => (match (B.okE [(Sh.i .i64)] false x2 xc) with
                                        | true => (match (A.ix x3 (A.len x1)) with
                                          | some xd => (match (B.okE [(Sh.i .i64)] false x1 xd) with
                                            | true => (match (A.ix x0 (A.len x1)) with
                                              | some xe => (match (B.okE [(Sh.i .i64)] false x1 xe) with
                                                | true => (f128_0 (A.ar .sub .i64 (B.ci x2 x7 0) (B.ci x2 x8 0)) (A.ar .sub .i64 (B.ci x1 x9 0) (B.ci x1 xa 0)) (A.ar .sub .i64 (B.ci x2 xb 0) (B.ci x2 xc 0)) (A.ar .sub .i64 (B.ci x1 xd 0) (B.ci x1 xe 0)) (fun xf =>
                                                  match (A.cm .gtr xf 0) with
                                                    | true => (l135_3_0 k0 x0 x1 x2 x4 (A.ar .add .i64 x4 1))
                                                    | false => (match (A.cm .eql xf 0) with
                                                      | true => (match (A.ix x4 (A.len x2)) with
                                                        | some xg => (match (B.okE [(Sh.i .i64)] false x2 xg) with
                                                          | true => (match (A.ix x3 (A.len x2)) with
                                                            | some xh => (match (B.okE [(Sh.i .i64)] false x2 xh) with
                                                              | true => (match (A.cm .lss (B.ci x2 xg 0) (B.ci x2 xh 0)) with
                                                                | true => (l135_3_0 k0 x0 x1 x2 x4 (A.ar .add .i64 x4 1))
                                                                | false => (l135_3_0 k0 x0 x1 x2 x3 (A.ar .add .i64 x4 1)))
                                                              | false => none)
                                                            | none => none)
                                                          | false => none)
                                                        | none => none)
                                                      | false => (l135_3_0 k0 x0 x1 x2 x3 (A.ar .add .i64 x4 1)))))
                                                | false => none)
                                              | none => none)
                                            | false => none)
                                          | none => none)
                                        | false => none)
                                      | none => none)
                                    | false => none)
                                  | none => none)
                                | false => none)
                              | none => none)
                            | false => none)
                          | none => none)
                        | false => none)
                      | none => none)
                    | false => none)
                  | none => none)))
            | false => none)
          | none => none)
        | false => none)
      | none => none)
    | false => (k0 x0 x3)
def L135_3_0 {β : Type} (A : Pr) (B : Pk) (N : Nat) : Nat → (Int → Int → Option β) → Int → List R → List R → Int → Int → Option β
  | 0, _, _, _, _, _, _ => none
  | n + 1, k0, x0, x1, x2, x3, x4 =>
    GL135_3_0 A B (F128_0 A B N) (L135_3_0 A B N n) k0 x0 x1 x2 x3 x4
def P47 : List PT := [.us 1, pI, .us 3, pI, .us 91]
def S47 (x0 x1 : Int) : List T := (T.u :: (tI x0) :: T.u :: T.u :: T.u :: (tI x1) :: T.u :: T.u :: T.u :: T.u :: T.u :: T.u :: T.u :: T.u :: T.u :: T.u :: T.u :: T.u :: T.u :: T.u :: T.u :: T.u :: T.u :: T.u :: T.u :: T.u :: T.u :: T.u :: T.u :: T.u :: T.u :: T.u :: T.u :: T.u :: T.u :: T.u :: T.u :: T.u :: T.u :: T.u :: T.u :: T.u :: T.u :: T.u :: T.u :: T.u :: T.u :: T.u :: T.u :: T.u :: T.u :: T.u :: T.u :: T.u :: T.u :: T.u :: T.u :: T.u :: T.u :: T.u :: T.u :: T.u :: T.u :: T.u :: T.u :: T.u :: T.u :: T.u :: T.u :: T.u :: T.u :: T.u :: T.u :: T.u :: T.u :: T.u :: T.u :: T.u :: T.u :: T.u :: T.u :: T.u :: T.u :: T.u :: T.u :: T.u :: T.u :: T.u :: T.u :: T.u :: T.u :: T.u :: T.u :: T.u :: T.u :: T.u :: T.u :: [])
def P48 : List PT := [.us 1, pI, (.bx [(.r (.ro 1)), (.r (.ro 1))]), .us 2, pI, pI, .us 90]
noncomputable def M135_3 {β : Type} (l135_3_0 : (Int → Int → Option β) → Int → List R → List R → Int → Int → Option β) (s : List T) : Option ((Ex → List T → Option β) → Option β) :=
  match gTs P48 (clean ((Hn 135).lp 3).1 s) [] with
  | some [.i x0, .l x1, .l x2, .i x3, .i x4] => some fun kk => l135_3_0 (fun x5 x6 => kk (Ex.ex 0) (S47 x5 x6)) x0 x1 x2 x3 x4
  | _ => none
theorem e135_3_0 {β : Type} (A : Pr) (B : Pk) (f128_0 : Int → Int → Int → Int → (Int → Option β) → Option β) (l135_3_0 : (Int → Int → Option β) → Int → List R → List R → Int → Int → Option β) (x0 : Int) (x1 x2 : List R) (x3 x4 : Int) (kk : Ex → List T → Option β) :
    uTs P48 [.i x0, .l x1, .l x2, .i x3, .i x4] (fun s _ => evK (mkK Try.prog A B [(128, M128_0 f128_0)] [] (Hn 135).pt []) X135_3 s (fun e s' => match e with
      | .nm => (match M135_3 l135_3_0 s' with | some h => h kk | none => none)
      | .ex m => kk (.ex m) (clean ((Hn 135).lp (firstReg X135_3)).2 s')
      | .rt => kk .rt (clean ((Hn 135).lp (firstReg X135_3)).2 s'))) = GL135_3_0 A B f128_0 l135_3_0 (fun x5 x6 => kk (Ex.ex 0) (S47 x5 x6)) x0 x1 x2 x3 x4 := by kernel_rfl
theorem ol135_3 {β : Type} (N : Nat) : ∀ n, SndL (β := β) Try.prog Hn (Hn 135) X135_3 (M135_3 (L135_3_0 re rk N n))
  | 0 => by
    intro s h kk r ha hr
    unfold M135_3 at ha
    split at ha
    · cases ha; cases hr
    · cases ha
  | n + 1 => by
    have ih := ol135_3 (β := β) N n
    intro s h kk r ha hr
    unfold M135_3 at ha
    split at ha
    · rename_i hs
      cases ha
      have hk := via_pat hs ((e135_3_0 re rk (F128_0 re rk N) (L135_3_0 re rk N n) _ _ _ _ _ kk).trans hr)
      exact round_ok (show SndAll Try.prog Hn [(128, M128_0 (F128_0 re rk N))] from ⟨o128_0 N, trivial⟩) (spots := []) (by kernel_rfl) trivial ih (hd := clean ((Hn 135).lp 3).1 s) (by rw [i135_3]) hk
    · cases ha
def G135_0 {β : Type} (A : Pr) (B : Pk) (l135_3_0 : (Int → Int → Option β) → Int → List R → List R → Int → Int → Option β) (x0 x1 : List R) (x2 : Int) (k0 : Int → Option β) : Option β :=
    l135_3_0 (fun x3 x4 =>
    k0 x4) x2 x0 x1 (-1) (A.ar .add .i64 x2 1)
def F135_0 {β : Type} (A : Pr) (B : Pk) (N : Nat) (x0 x1 : List R) (x2 : Int) (k0 : Int → Option β) : Option β :=
  G135_0 A B (L135_3_0 A B N N) x0 x1 x2 k0
def P49 : List PT := [(.r (.a [(.ro 1), (.ro 1)])), pI]
def M135_0 {β : Type} (f135_0 : List R → List R → Int → (Int → Option β) → Option β) (a : List T) : Option ((T → List (List T) → Option β) → Option β) :=
  match gTs P49 a [] with
  | some [.l x0, .l x1, .i x2] => some fun kk => f135_0 x0 x1 x2 (fun x3 => kk (tI x3) [])
  | _ => none
theorem e135_0 {β : Type} (A : Pr) (B : Pk) (l135_3_0 : (Int → Int → Option β) → Int → List R → List R → Int → Int → Option β) (x0 x1 : List R) (x2 : Int) (kk : T → List (List T) → Option β) :
    uTs P49 [.l x0, .l x1, .i x2] (fun a _ => bodyK (mkK Try.prog A B [] [(3, M135_3 l135_3_0)] (Hn 135).pt []) Try.f135 a kk) = G135_0 A B l135_3_0 x0 x1 x2 (fun x3 => kk (tI x3) []) := by kernel_rfl
theorem o135_0 {β : Type} (N : Nat) : Snd (β := β) Try.prog Hn 135 (M135_0 (F135_0 re rk N)) := by
  intro a h kk r ha hr
  unfold M135_0 at ha
  split at ha
  · rename_i hs
    cases ha
    have hk := via_pat hs ((e135_0 re rk (L135_3_0 re rk N N) _ _ _ kk).trans hr)
    exact fn_ok (f := 135) (fn := Try.f135) (H := Hn) (by kernel_rfl) (show SndAll Try.prog Hn [] from trivial) (spots := [.lp X135_3]) (by kernel_rfl) ⟨cut_lp (id := 3) i135_3 (ol135_3 N N) (fun s kk => by kernel_rfl), trivial⟩ hk
  · cases ha
noncomputable def X127_5 : Code := atF Try.f127 [true, true, true, false, true, false, false]
theorem i127_5 : firstReg X127_5 = 5 := by kernel_rfl
def GL127_5_0 {β : Type} (A : Pr) (B : Pk) (f135_0 : List R → List R → Int → (Int → Option β) → Option β) (l127_5_0 : (List R → Option β) → List R → List R → List R → Int → Option β) (k0 : List R → Option β) (x0 x1 x2 : List R) (x3 : Int) : Option β :=
    match (A.cm .geq x3 0) with
    | true => (match (A.small (A.len (A.app x2 [(R.i .i64 x3)])) 8) with
      | true => (f135_0 x0 x1 x3 (fun x4 =>
        l127_5_0 k0 x0 x1 (A.app x2 [(R.i .i64 x3)]) x4))
      | false => none)
    | false => (k0 x2)
def L127_5_0 {β : Type} (A : Pr) (B : Pk) (N : Nat) : Nat → (List R → Option β) → List R → List R → List R → Int → Option β
  | 0, _, _, _, _, _ => none
  | n + 1, k0, x0, x1, x2, x3 =>
    GL127_5_0 A B (F135_0 A B N) (L127_5_0 A B N n) k0 x0 x1 x2 x3
def P50 : List PT := [.us 3, (.own true 1), .us 14]
def S50 (x0 : List R) : List T := [T.u, T.u, T.u, (T.own true 1 x0), T.u, T.u, T.u, T.u, T.u, T.u, T.u, T.u, T.u, T.u, T.u, T.u, T.u, T.u]
def P51 : List PT := [.us 1, (.bx [(.r (.ro 1)), (.r (.ro 1))]), .us 1, (.own true 1), pI, .us 13]
noncomputable def M127_5 {β : Type} (l127_5_0 : (List R → Option β) → List R → List R → List R → Int → Option β) (s : List T) : Option ((Ex → List T → Option β) → Option β) :=
  match gTs P51 (clean ((Hn 127).lp 5).1 s) [] with
  | some [.l x0, .l x1, .l x2, .i x3] => some fun kk => l127_5_0 (fun x4 => kk (Ex.ex 0) (S50 x4)) x0 x1 x2 x3
  | _ => none
theorem e127_5_0 {β : Type} (A : Pr) (B : Pk) (f135_0 : List R → List R → Int → (Int → Option β) → Option β) (l127_5_0 : (List R → Option β) → List R → List R → List R → Int → Option β) (x0 x1 x2 : List R) (x3 : Int) (kk : Ex → List T → Option β) :
    uTs P51 [.l x0, .l x1, .l x2, .i x3] (fun s _ => evK (mkK Try.prog A B [(135, M135_0 f135_0)] [] (Hn 127).pt []) X127_5 s (fun e s' => match e with
      | .nm => (match M127_5 l127_5_0 s' with | some h => h kk | none => none)
      | .ex m => kk (.ex m) (clean ((Hn 127).lp (firstReg X127_5)).2 s')
      | .rt => kk .rt (clean ((Hn 127).lp (firstReg X127_5)).2 s'))) = GL127_5_0 A B f135_0 l127_5_0 (fun x4 => kk (Ex.ex 0) (S50 x4)) x0 x1 x2 x3 := by kernel_rfl
theorem ol127_5 {β : Type} (N : Nat) : ∀ n, SndL (β := β) Try.prog Hn (Hn 127) X127_5 (M127_5 (L127_5_0 re rk N n))
  | 0 => by
    intro s h kk r ha hr
    unfold M127_5 at ha
    split at ha
    · cases ha; cases hr
    · cases ha
  | n + 1 => by
    have ih := ol127_5 (β := β) N n
    intro s h kk r ha hr
    unfold M127_5 at ha
    split at ha
    · rename_i hs
      cases ha
      have hk := via_pat hs ((e127_5_0 re rk (F135_0 re rk N) (L127_5_0 re rk N n) _ _ _ _ kk).trans hr)
      exact round_ok (show SndAll Try.prog Hn [(135, M135_0 (F135_0 re rk N))] from ⟨o135_0 N, trivial⟩) (spots := []) (by kernel_rfl) trivial ih (hd := clean ((Hn 127).lp 5).1 s) (by rw [i127_5]) hk
    · cases ha
def G127_0 {β : Type} (A : Pr) (B : Pk) (f87_0 : List R → List R → (Bool → Option β) → Option β) (l127_5_0 : (List R → Option β) → List R → List R → List R → Int → Option β) (x0 x1 : List R) (k0 : List R → Option β) : Option β :=
    f87_0 x0 x1 (fun x2 =>
    match (A.bn x2) with
      | true => (k0 [])
      | false => (l127_5_0 (fun x3 =>
        k0 x3) x0 x1 [] 0))
def F127_0 {β : Type} (A : Pr) (B : Pk) (N : Nat) (x0 x1 : List R) (k0 : List R → Option β) : Option β :=
  G127_0 A B (F87_0 A B N) (L127_5_0 A B N N) x0 x1 k0
def M127_0 {β : Type} (f127_0 : List R → List R → (List R → Option β) → Option β) (a : List T) : Option ((T → List (List T) → Option β) → Option β) :=
  match gTs P7 a [] with
  | some [.l x0, .l x1] => some fun kk => f127_0 x0 x1 (fun x2 => kk (T.own true 1 x2) [])
  | _ => none
theorem e127_0 {β : Type} (A : Pr) (B : Pk) (f87_0 : List R → List R → (Bool → Option β) → Option β) (l127_5_0 : (List R → Option β) → List R → List R → List R → Int → Option β) (x0 x1 : List R) (kk : T → List (List T) → Option β) :
    uTs P7 [.l x0, .l x1] (fun a _ => bodyK (mkK Try.prog A B [(87, M87_0 f87_0)] [(5, M127_5 l127_5_0)] (Hn 127).pt []) Try.f127 a kk) = G127_0 A B f87_0 l127_5_0 x0 x1 (fun x2 => kk (T.own true 1 x2) []) := by kernel_rfl
theorem o127_0 {β : Type} (N : Nat) : Snd (β := β) Try.prog Hn 127 (M127_0 (F127_0 re rk N)) := by
  intro a h kk r ha hr
  unfold M127_0 at ha
  split at ha
  · rename_i hs
    cases ha
    have hk := via_pat hs ((e127_0 re rk (F87_0 re rk N) (L127_5_0 re rk N N) _ _ kk).trans hr)
    exact fn_ok (f := 127) (fn := Try.f127) (H := Hn) (by kernel_rfl) (show SndAll Try.prog Hn [(87, M87_0 (F87_0 re rk N))] from ⟨o87_0 N, trivial⟩) (spots := [.lp X127_5]) (by kernel_rfl) ⟨cut_lp (id := 5) i127_5 (ol127_5 N N) (fun s kk => by kernel_rfl), trivial⟩ hk
  · cases ha
noncomputable def X111_12 : Code := atF Try.f111 [true, true, false, true, false, false, true, true, false, false, true, true, true, false, false, true, false, false, true, true, true, false, false, false]
theorem i111_12 : firstReg X111_12 = 12 := by kernel_rfl
def GL111_12_0 {β : Type} (A : Pr) (B : Pk) (f128_0 : Int → Int → Int → Int → (Int → Option β) → Option β) (l111_12_0 : (Q1 β) → Q1 β) (k0 : Q1 β) (x0 : List R) (x1 : Int) (x2 x3 x4 : List R) (x5 x6 x7 x8 x9 xa : Int) (xb : List R) (xc xd : Int) : Option β :=
    match (A.cm .gtr xa 0) with
    | true => (match (A.ix (A.ar .sub .i64 xa 1) (A.len x0)) with
      | some xe => (match (B.okC [(Sh.i .i64)] x0 xe 0) with
        | true => (match (A.ix (A.ar .sub .i64 xa 1) (A.len x0)) with
          | some xf => (match (B.okC [(Sh.i .i64)] x0 xf 1) with
            | true => (f128_0 x6 x7 (B.ci x0 xe 0) (B.ci x0 xf 1) (fun xg =>
              match (A.cm .gtr xg 0) with
                | true => (l111_12_0 k0 x0 x1 x2 x3 x4 x5 x6 x7 x8 x9 (A.ar .sub .i64 xa 1) xb xc xd)
                | false => (k0 x0 x1 x2 x3 x4 x5 x6 x7 x8 x9 xa xb xc xd)))
            | false => none)
          | none => none)
        | false => none)
      | none => none)
    | false => (k0 x0 x1 x2 x3 x4 x5 x6 x7 x8 x9 xa xb xc xd)
def L111_12_0 {β : Type} (A : Pr) (B : Pk) (N : Nat) : Nat → (Q1 β) → Q1 β
  | 0, _, _, _, _, _, _, _, _, _, _, _, _, _, _, _ => none
  | n + 1, k0, x0, x1, x2, x3, x4, x5, x6, x7, x8, x9, xa, xb, xc, xd =>
    GL111_12_0 A B (F128_0 A B N) (L111_12_0 A B N n) k0 x0 x1 x2 x3 x4 x5 x6 x7 x8 x9 xa xb xc xd
def P52 : List PT := [.us 3, (.own true 4), pI, (.bx [(.r (.ro 1)), (.r (.ro 1))]), (.own true 1), pI, .us 2, (.bx [pI, pI, pI, pI]), pI, (.r (.ro 2)), pI, pI, .us 90]
def S52 (x0 : List R) (x1 : Int) (x2 x3 x4 : List R) (x5 x6 x7 x8 x9 xa : Int) (xb : List R) (xc xd : Int) : List T := (T.u :: T.u :: T.u :: (T.own true 4 x0) :: (tI x1) :: (T.bx [(T.r (R.ro 1 x2)), (T.r (R.ro 1 x3))]) :: (T.own true 1 x4) :: (tI x5) :: T.u :: T.u :: (T.bx [(tI x6), (tI x7), (tI x8), (tI x9)]) :: (tI xa) :: (T.r (R.ro 2 xb)) :: (tI xc) :: (tI xd) :: T.u :: T.u :: T.u :: T.u :: T.u :: T.u :: T.u :: T.u :: T.u :: T.u :: T.u :: T.u :: T.u :: T.u :: T.u :: T.u :: T.u :: T.u :: T.u :: T.u :: T.u :: T.u :: T.u :: T.u :: T.u :: T.u :: T.u :: T.u :: T.u :: T.u :: T.u :: T.u :: T.u :: T.u :: T.u :: T.u :: T.u :: T.u :: T.u :: T.u :: T.u :: T.u :: T.u :: T.u :: T.u :: T.u :: T.u :: T.u :: T.u :: T.u :: T.u :: T.u :: T.u :: T.u :: T.u :: T.u :: T.u :: T.u :: T.u :: T.u :: T.u :: T.u :: T.u :: T.u :: T.u :: T.u :: T.u :: T.u :: T.u :: T.u :: T.u :: T.u :: T.u :: T.u :: T.u :: T.u :: T.u :: T.u :: T.u :: T.u :: T.u :: T.u :: T.u :: T.u :: T.u :: T.u :: T.u :: T.u :: T.u :: T.u :: [])
noncomputable def M111_12 {β : Type} (l111_12_0 : (Q1 β) → Q1 β) (s : List T) : Option ((Ex → List T → Option β) → Option β) :=
  match gTs P52 (clean ((Hn 111).lp 12).1 s) [] with
  | some [.l x0, .i x1, .l x2, .l x3, .l x4, .i x5, .i x6, .i x7, .i x8, .i x9, .i xa, .l xb, .i xc, .i xd] => some fun kk => l111_12_0 (fun xe xf xg xh xi xj xk xl xm xn xo xp xq xr => kk (Ex.ex 4) (S52 xe xf xg xh xi xj xk xl xm xn xo xp xq xr)) x0 x1 x2 x3 x4 x5 x6 x7 x8 x9 xa xb xc xd
  | _ => none
theorem e111_12_0 {β : Type} (A : Pr) (B : Pk) (f128_0 : Int → Int → Int → Int → (Int → Option β) → Option β) (l111_12_0 : (Q1 β) → Q1 β) (x0 : List R) (x1 : Int) (x2 x3 x4 : List R) (x5 x6 x7 x8 x9 xa : Int) (xb : List R) (xc xd : Int) (kk : Ex → List T → Option β) :
    uTs P52 [.l x0, .i x1, .l x2, .l x3, .l x4, .i x5, .i x6, .i x7, .i x8, .i x9, .i xa, .l xb, .i xc, .i xd] (fun s _ => evK (mkK Try.prog A B [(128, M128_0 f128_0)] [] (Hn 111).pt []) X111_12 s (fun e s' => match e with
      | .nm => (match M111_12 l111_12_0 s' with | some h => h kk | none => none)
      | .ex m => kk (.ex m) (clean ((Hn 111).lp (firstReg X111_12)).2 s')
      | .rt => kk .rt (clean ((Hn 111).lp (firstReg X111_12)).2 s'))) = GL111_12_0 A B f128_0 l111_12_0 (fun xe xf xg xh xi xj xk xl xm xn xo xp xq xr => kk (Ex.ex 4) (S52 xe xf xg xh xi xj xk xl xm xn xo xp xq xr)) x0 x1 x2 x3 x4 x5 x6 x7 x8 x9 xa xb xc xd := by kernel_rfl
theorem ol111_12 {β : Type} (N : Nat) : ∀ n, SndL (β := β) Try.prog Hn (Hn 111) X111_12 (M111_12 (L111_12_0 re rk N n))
  | 0 => by
    intro s h kk r ha hr
    unfold M111_12 at ha
    split at ha
    · cases ha; cases hr
    · cases ha
  | n + 1 => by
    have ih := ol111_12 (β := β) N n
    intro s h kk r ha hr
    unfold M111_12 at ha
    split at ha
    · rename_i hs
      cases ha
      have hk := via_pat hs ((e111_12_0 re rk (F128_0 re rk N) (L111_12_0 re rk N n) _ _ _ _ _ _ _ _ _ _ _ _ _ _ kk).trans hr)
      exact round_ok (show SndAll Try.prog Hn [(128, M128_0 (F128_0 re rk N))] from ⟨o128_0 N, trivial⟩) (spots := []) (by kernel_rfl) trivial ih (hd := clean ((Hn 111).lp 12).1 s) (by rw [i111_12]) hk
    · cases ha
noncomputable def X111_7 : Code := atF Try.f111 [true, true, false, true, false, false, true, true, false, false, true, true, true, false, false]
theorem i111_7 : firstReg X111_7 = 7 := by kernel_rfl
def GL111_7_0 {β : Type} (A : Pr) (B : Pk) (l111_12_0 : (Q1 β) → Q1 β) (l111_7_0 : (List R → List R → Int → Int → Option β) → Q2 β) (k0 : List R → List R → Int → Int → Option β) (x0 : List R) (x1 : Int) (x2 x3 x4 : List R) (x5 : Int) (x6 : List R) (x7 x8 : Int) : Option β :=
    match (A.cm .lss x5 (A.on (A.len x4))) with
    | true => (match (A.ix (A.ar .sub .i64 x5 1) (A.len x4)) with
      | some x9 => (match (B.okC [(Sh.i .i64)] x4 x9 0) with
        | true => (match (A.ix x5 (A.len x4)) with
          | some xa => (match (B.okC [(Sh.i .i64)] x4 xa 0) with
            | true => (match (A.ix (B.ci x4 x9 0) (A.len x3)) with
              | some xb => (match (B.okE [(Sh.i .i64)] false x3 xb) with
                | true => (match (A.ix (B.ci x4 xa 0) (A.len x3)) with
                  | some xc => (match (B.okE [(Sh.i .i64)] false x3 xc) with
                    | true => (match (A.ix (B.ci x4 xa 0) (A.len x2)) with
                      | some xd => (match (B.okE [(Sh.i .i64)] false x2 xd) with
                        | true => (match (A.ix (B.ci x4 x9 0) (A.len x2)) with
                          | some xe => (match (B.okE [(Sh.i .i64)] false x2 xe) with
                            | true => (l111_12_0 (fun xf xg xh xi xj xk xl xm xn xo xp xq xr xs =>
                              match (A.small (A.len (A.app xf [(R.a [(R.i .i64 0), (R.i .i64 0), (R.i .i64 0), (R.i .i64 0)])])) 32) with
                                | true => (match (A.sx (A.ar .add .i64 xp 1) (A.len (A.app xf [(R.a [(R.i .i64 0), (R.i .i64 0), (R.i .i64 0), (R.i .i64 0)])]))) with
                                  | some xt => (match (A.sx xp (A.len (A.app xf [(R.a [(R.i .i64 0), (R.i .i64 0), (R.i .i64 0), (R.i .i64 0)])]))) with
                                    | some xu => (match (A.ix xp (A.len (A.spl (A.app xf [(R.a [(R.i .i64 0), (R.i .i64 0), (R.i .i64 0), (R.i .i64 0)])]) xt (A.seg (A.seg (A.app xf [(R.a [(R.i .i64 0), (R.i .i64 0), (R.i .i64 0), (R.i .i64 0)])]) xu (A.sub (A.len (A.app xf [(R.a [(R.i .i64 0), (R.i .i64 0), (R.i .i64 0), (R.i .i64 0)])])) xu)) 0 (A.nmn (A.len (A.seg (A.app xf [(R.a [(R.i .i64 0), (R.i .i64 0), (R.i .i64 0), (R.i .i64 0)])]) xu (A.sub (A.len (A.app xf [(R.a [(R.i .i64 0), (R.i .i64 0), (R.i .i64 0), (R.i .i64 0)])])) xu))) (A.sub (A.len (A.app xf [(R.a [(R.i .i64 0), (R.i .i64 0), (R.i .i64 0), (R.i .i64 0)])])) xt)))))) with
                                      | some xv => (match (B.okE [(Sh.i .i64), (Sh.i .i64), (Sh.i .i64), (Sh.i .i64)] true (A.spl (A.app xf [(R.a [(R.i .i64 0), (R.i .i64 0), (R.i .i64 0), (R.i .i64 0)])]) xt (A.seg (A.seg (A.app xf [(R.a [(R.i .i64 0), (R.i .i64 0), (R.i .i64 0), (R.i .i64 0)])]) xu (A.sub (A.len (A.app xf [(R.a [(R.i .i64 0), (R.i .i64 0), (R.i .i64 0), (R.i .i64 0)])])) xu)) 0 (A.nmn (A.len (A.seg (A.app xf [(R.a [(R.i .i64 0), (R.i .i64 0), (R.i .i64 0), (R.i .i64 0)])]) xu (A.sub (A.len (A.app xf [(R.a [(R.i .i64 0), (R.i .i64 0), (R.i .i64 0), (R.i .i64 0)])])) xu))) (A.sub (A.len (A.app xf [(R.a [(R.i .i64 0), (R.i .i64 0), (R.i .i64 0), (R.i .i64 0)])])) xt)))) xv) with
                                        | true => (l111_7_0 k0 (A.set (A.spl (A.app xf [(R.a [(R.i .i64 0), (R.i .i64 0), (R.i .i64 0), (R.i .i64 0)])]) xt (A.seg (A.seg (A.app xf [(R.a [(R.i .i64 0), (R.i .i64 0), (R.i .i64 0), (R.i .i64 0)])]) xu (A.sub (A.len (A.app xf [(R.a [(R.i .i64 0), (R.i .i64 0), (R.i .i64 0), (R.i .i64 0)])])) xu)) 0 (A.nmn (A.len (A.seg (A.app xf [(R.a [(R.i .i64 0), (R.i .i64 0), (R.i .i64 0), (R.i .i64 0)])]) xu (A.sub (A.len (A.app xf [(R.a [(R.i .i64 0), (R.i .i64 0), (R.i .i64 0), (R.i .i64 0)])])) xu))) (A.sub (A.len (A.app xf [(R.a [(R.i .i64 0), (R.i .i64 0), (R.i .i64 0), (R.i .i64 0)])])) xt)))) xv (R.a [(R.i .i64 xl), (R.i .i64 xm), (R.i .i64 xn), (R.i .i64 xo)])) xg xh xi xj (A.ar .add .i64 xk 1) xq xr xs)
                                        | false => none)
                                      | none => none)
                                    | none => none)
                                  | none => none)
                                | false => none) x0 x1 x2 x3 x4 x5 (A.ar .sub .i64 (B.ci x3 xb 0) (B.ci x3 xc 0)) (A.ar .sub .i64 (B.ci x2 xd 0) (B.ci x2 xe 0)) x1 (B.ci x4 xa 0) (A.on (A.len x0)) x6 x7 x8)
                            | false => none)
                          | none => none)
                        | false => none)
                      | none => none)
                    | false => none)
                  | none => none)
                | false => none)
              | none => none)
            | false => none)
          | none => none)
        | false => none)
      | none => none)
    | false => (k0 x0 x6 x7 x8)
def L111_7_0 {β : Type} (A : Pr) (B : Pk) (N : Nat) : Nat → (List R → List R → Int → Int → Option β) → Q2 β
  | 0, _, _, _, _, _, _, _, _, _, _ => none
  | n + 1, k0, x0, x1, x2, x3, x4, x5, x6, x7, x8 =>
    GL111_7_0 A B (L111_12_0 A B N N) (L111_7_0 A B N n) k0 x0 x1 x2 x3 x4 x5 x6 x7 x8
def P53 : List PT := [.us 3, (.own true 4), .us 8, (.r (.ro 2)), pI, pI, .us 90]
def S53 (x0 x1 : List R) (x2 x3 : Int) : List T := (T.u :: T.u :: T.u :: (T.own true 4 x0) :: T.u :: T.u :: T.u :: T.u :: T.u :: T.u :: T.u :: T.u :: (T.r (R.ro 2 x1)) :: (tI x2) :: (tI x3) :: T.u :: T.u :: T.u :: T.u :: T.u :: T.u :: T.u :: T.u :: T.u :: T.u :: T.u :: T.u :: T.u :: T.u :: T.u :: T.u :: T.u :: T.u :: T.u :: T.u :: T.u :: T.u :: T.u :: T.u :: T.u :: T.u :: T.u :: T.u :: T.u :: T.u :: T.u :: T.u :: T.u :: T.u :: T.u :: T.u :: T.u :: T.u :: T.u :: T.u :: T.u :: T.u :: T.u :: T.u :: T.u :: T.u :: T.u :: T.u :: T.u :: T.u :: T.u :: T.u :: T.u :: T.u :: T.u :: T.u :: T.u :: T.u :: T.u :: T.u :: T.u :: T.u :: T.u :: T.u :: T.u :: T.u :: T.u :: T.u :: T.u :: T.u :: T.u :: T.u :: T.u :: T.u :: T.u :: T.u :: T.u :: T.u :: T.u :: T.u :: T.u :: T.u :: T.u :: T.u :: T.u :: T.u :: T.u :: T.u :: T.u :: T.u :: [])
def P54 : List PT := [.us 3, (.own true 4), pI, (.bx [(.r (.ro 1)), (.r (.ro 1))]), (.own true 1), pI, .us 4, (.r (.ro 2)), pI, pI, .us 90]
noncomputable def M111_7 {β : Type} (l111_7_0 : (List R → List R → Int → Int → Option β) → Q2 β) (s : List T) : Option ((Ex → List T → Option β) → Option β) :=
  match gTs P54 (clean ((Hn 111).lp 7).1 s) [] with
  | some [.l x0, .i x1, .l x2, .l x3, .l x4, .i x5, .l x6, .i x7, .i x8] => some fun kk => l111_7_0 (fun x9 xa xb xc => kk (Ex.ex 2) (S53 x9 xa xb xc)) x0 x1 x2 x3 x4 x5 x6 x7 x8
  | _ => none
theorem e111_7_0 {β : Type} (A : Pr) (B : Pk) (l111_12_0 : (Q1 β) → Q1 β) (l111_7_0 : (List R → List R → Int → Int → Option β) → Q2 β) (x0 : List R) (x1 : Int) (x2 x3 x4 : List R) (x5 : Int) (x6 : List R) (x7 x8 : Int) (kk : Ex → List T → Option β) :
    uTs P54 [.l x0, .i x1, .l x2, .l x3, .l x4, .i x5, .l x6, .i x7, .i x8] (fun s _ => evK (mkK Try.prog A B [] [(12, M111_12 l111_12_0)] (Hn 111).pt []) X111_7 s (fun e s' => match e with
      | .nm => (match M111_7 l111_7_0 s' with | some h => h kk | none => none)
      | .ex m => kk (.ex m) (clean ((Hn 111).lp (firstReg X111_7)).2 s')
      | .rt => kk .rt (clean ((Hn 111).lp (firstReg X111_7)).2 s'))) = GL111_7_0 A B l111_12_0 l111_7_0 (fun x9 xa xb xc => kk (Ex.ex 2) (S53 x9 xa xb xc)) x0 x1 x2 x3 x4 x5 x6 x7 x8 := by kernel_rfl
theorem ol111_7 {β : Type} (N : Nat) : ∀ n, SndL (β := β) Try.prog Hn (Hn 111) X111_7 (M111_7 (L111_7_0 re rk N n))
  | 0 => by
    intro s h kk r ha hr
    unfold M111_7 at ha
    split at ha
    · cases ha; cases hr
    · cases ha
  | n + 1 => by
    have ih := ol111_7 (β := β) N n
    intro s h kk r ha hr
    unfold M111_7 at ha
    split at ha
    · rename_i hs
      cases ha
      have hk := via_pat hs ((e111_7_0 re rk (L111_12_0 re rk N N) (L111_7_0 re rk N n) _ _ _ _ _ _ _ _ _ kk).trans hr)
      exact round_ok (show SndAll Try.prog Hn [] from trivial) (spots := [.lp X111_12]) (by kernel_rfl) ⟨cut_lp (id := 12) i111_12 (ol111_12 N N) (fun s kk => by kernel_rfl), trivial⟩ ih (hd := clean ((Hn 111).lp 7).1 s) (by rw [i111_7]) hk
    · cases ha
noncomputable def X111_3 : Code := atF Try.f111 [true, true, false, true, false, false]
theorem i111_3 : firstReg X111_3 = 3 := by kernel_rfl
def GL111_3_0 {β : Type} (A : Pr) (B : Pk) (f127_0 : List R → List R → (List R → Option β) → Option β) (l111_7_0 : (List R → List R → Int → Int → Option β) → Q2 β) (l111_3_0 : (List R → Option β) → List R → List R → Int → Int → Option β) (k0 : List R → Option β) (x0 x1 : List R) (x2 x3 : Int) : Option β :=
    match (A.cm .lss x3 x2) with
    | true => (match (A.ix x3 (A.len x1)) with
      | some x4 => (match (B.okE [(Sh.sl 1 (Sh.i .i64)), (Sh.sl 1 (Sh.i .i64))] true x1 x4) with
        | true => (f127_0 (B.cl x1 x4 0) (B.cl x1 x4 1) (fun x5 =>
          l111_7_0 (fun x6 x7 x8 x9 =>
            l111_3_0 k0 x6 x7 x8 (A.ar .add .i64 x9 1)) x0 x3 (B.cl x1 x4 0) (B.cl x1 x4 1) x5 1 x1 x2 x3))
        | false => none)
      | none => none)
    | false => (k0 x0)
def L111_3_0 {β : Type} (A : Pr) (B : Pk) (N : Nat) : Nat → (List R → Option β) → List R → List R → Int → Int → Option β
  | 0, _, _, _, _, _ => none
  | n + 1, k0, x0, x1, x2, x3 =>
    GL111_3_0 A B (F127_0 A B N) (L111_7_0 A B N N) (L111_3_0 A B N n) k0 x0 x1 x2 x3
def P55 : List PT := [.us 3, (.own true 4), .us 101]
def S55 (x0 : List R) : List T := (T.u :: T.u :: T.u :: (T.own true 4 x0) :: T.u :: T.u :: T.u :: T.u :: T.u :: T.u :: T.u :: T.u :: T.u :: T.u :: T.u :: T.u :: T.u :: T.u :: T.u :: T.u :: T.u :: T.u :: T.u :: T.u :: T.u :: T.u :: T.u :: T.u :: T.u :: T.u :: T.u :: T.u :: T.u :: T.u :: T.u :: T.u :: T.u :: T.u :: T.u :: T.u :: T.u :: T.u :: T.u :: T.u :: T.u :: T.u :: T.u :: T.u :: T.u :: T.u :: T.u :: T.u :: T.u :: T.u :: T.u :: T.u :: T.u :: T.u :: T.u :: T.u :: T.u :: T.u :: T.u :: T.u :: T.u :: T.u :: T.u :: T.u :: T.u :: T.u :: T.u :: T.u :: T.u :: T.u :: T.u :: T.u :: T.u :: T.u :: T.u :: T.u :: T.u :: T.u :: T.u :: T.u :: T.u :: T.u :: T.u :: T.u :: T.u :: T.u :: T.u :: T.u :: T.u :: T.u :: T.u :: T.u :: T.u :: T.u :: T.u :: T.u :: T.u :: T.u :: T.u :: T.u :: T.u :: [])
noncomputable def M111_3 {β : Type} (l111_3_0 : (List R → Option β) → List R → List R → Int → Int → Option β) (s : List T) : Option ((Ex → List T → Option β) → Option β) :=
  match gTs P53 (clean ((Hn 111).lp 3).1 s) [] with
  | some [.l x0, .l x1, .i x2, .i x3] => some fun kk => l111_3_0 (fun x4 => kk (Ex.ex 0) (S55 x4)) x0 x1 x2 x3
  | _ => none
theorem e111_3_0 {β : Type} (A : Pr) (B : Pk) (f127_0 : List R → List R → (List R → Option β) → Option β) (l111_7_0 : (List R → List R → Int → Int → Option β) → Q2 β) (l111_3_0 : (List R → Option β) → List R → List R → Int → Int → Option β) (x0 x1 : List R) (x2 x3 : Int) (kk : Ex → List T → Option β) :
    uTs P53 [.l x0, .l x1, .i x2, .i x3] (fun s _ => evK (mkK Try.prog A B [(127, M127_0 f127_0)] [(7, M111_7 l111_7_0)] (Hn 111).pt []) X111_3 s (fun e s' => match e with
      | .nm => (match M111_3 l111_3_0 s' with | some h => h kk | none => none)
      | .ex m => kk (.ex m) (clean ((Hn 111).lp (firstReg X111_3)).2 s')
      | .rt => kk .rt (clean ((Hn 111).lp (firstReg X111_3)).2 s'))) = GL111_3_0 A B f127_0 l111_7_0 l111_3_0 (fun x4 => kk (Ex.ex 0) (S55 x4)) x0 x1 x2 x3 := by kernel_rfl
theorem ol111_3 {β : Type} (N : Nat) : ∀ n, SndL (β := β) Try.prog Hn (Hn 111) X111_3 (M111_3 (L111_3_0 re rk N n))
  | 0 => by
    intro s h kk r ha hr
    unfold M111_3 at ha
    split at ha
    · cases ha; cases hr
    · cases ha
  | n + 1 => by
    have ih := ol111_3 (β := β) N n
    intro s h kk r ha hr
    unfold M111_3 at ha
    split at ha
    · rename_i hs
      cases ha
      have hk := via_pat hs ((e111_3_0 re rk (F127_0 re rk N) (L111_7_0 re rk N N) (L111_3_0 re rk N n) _ _ _ _ kk).trans hr)
      exact round_ok (show SndAll Try.prog Hn [(127, M127_0 (F127_0 re rk N))] from ⟨o127_0 N, trivial⟩) (spots := [.lp X111_7]) (by kernel_rfl) ⟨cut_lp (id := 7) i111_7 (ol111_7 N N) (fun s kk => by kernel_rfl), trivial⟩ ih (hd := clean ((Hn 111).lp 3).1 s) (by rw [i111_3]) hk
    · cases ha
def G111_0 {β : Type} (A : Pr) (B : Pk) (l111_3_0 : (List R → Option β) → List R → List R → Int → Int → Option β) (x0 : List R) (k0 : List R → Option β) : Option β :=
    l111_3_0 (fun x1 =>
    k0 x1) [] x0 (A.on (A.len x0)) 0
def F111_0 {β : Type} (A : Pr) (B : Pk) (N : Nat) (x0 : List R) (k0 : List R → Option β) : Option β :=
  G111_0 A B (L111_3_0 A B N N) x0 k0
def M111_0 {β : Type} (f111_0 : List R → (List R → Option β) → Option β) (a : List T) : Option ((T → List (List T) → Option β) → Option β) :=
  match gTs P11 a [] with
  | some [.l x0] => some fun kk => f111_0 x0 (fun x1 => kk (T.own true 4 x1) [])
  | _ => none
theorem e111_0 {β : Type} (A : Pr) (B : Pk) (l111_3_0 : (List R → Option β) → List R → List R → Int → Int → Option β) (x0 : List R) (kk : T → List (List T) → Option β) :
    uTs P11 [.l x0] (fun a _ => bodyK (mkK Try.prog A B [] [(3, M111_3 l111_3_0)] (Hn 111).pt []) Try.f111 a kk) = G111_0 A B l111_3_0 x0 (fun x1 => kk (T.own true 4 x1) []) := by kernel_rfl
theorem o111_0 {β : Type} (N : Nat) : Snd (β := β) Try.prog Hn 111 (M111_0 (F111_0 re rk N)) := by
  intro a h kk r ha hr
  unfold M111_0 at ha
  split at ha
  · rename_i hs
    cases ha
    have hk := via_pat hs ((e111_0 re rk (L111_3_0 re rk N N) _ kk).trans hr)
    exact fn_ok (f := 111) (fn := Try.f111) (H := Hn) (by kernel_rfl) (show SndAll Try.prog Hn [] from trivial) (spots := [.lp X111_3]) (by kernel_rfl) ⟨cut_lp (id := 3) i111_3 (ol111_3 N N) (fun s kk => by kernel_rfl), trivial⟩ hk
  · cases ha
noncomputable def X86_16 : Code := atF Try.f86 [true, true, true, true, true, true, false, true, false, false]
theorem i86_16 : firstReg X86_16 = 16 := by kernel_rfl
def GL86_16_0 {β : Type} (A : Pr) (B : Pk) (l86_16_0 : (Int → List R → Option β) → Int → List R → Int → List R → Int → Int → Option β) (k0 : Int → List R → Option β) (x0 : Int) (x1 : List R) (x2 : Int) (x3 : List R) (x4 x5 : Int) : Option β :=
    match (A.cm .lss x5 x4) with
    | true => (match (A.ix x5 (A.len x3)) with
      | some x6 => (match (B.okC [(Sh.i .i64), (Sh.i .i64), (Sh.i .i64), (Sh.i .i64)] x3 x6 0) with
        | true => (match (A.cm .gtr (A.ar .add .i64 x2 (B.ci x3 x6 1)) x0) with
          | true => (k0 x0 x1)
          | false => (match (A.ix (B.ci x3 x6 2) (A.len x1)) with
            | some x7 => (match (B.okC [(Sh.i .i64)] x1 x7 0) with
              | true => (l86_16_0 k0 x0 (B.upd x1 x7 0 (R.i .i64 (B.ci x3 x6 3))) (A.ar .add .i64 x2 (B.ci x3 x6 1)) x3 x4 (A.ar .add .i64 x5 1))
              | false => none)
            | none => none))
        | false => none)
      | none => none)
    | false => (k0 x0 x1)
def L86_16_0 {β : Type} (A : Pr) (B : Pk) (N : Nat) : Nat → (Int → List R → Option β) → Int → List R → Int → List R → Int → Int → Option β
  | 0, _, _, _, _, _, _, _ => none
  | n + 1, k0, x0, x1, x2, x3, x4, x5 =>
    GL86_16_0 A B (L86_16_0 A B N n) k0 x0 x1 x2 x3 x4 x5
def P56 : List PT := [.us 1, pI, .us 5, (.own true 1), .us 58]
def S56 (x0 : Int) (x1 : List R) : List T := (T.u :: (tI x0) :: T.u :: T.u :: T.u :: T.u :: T.u :: (T.own true 1 x1) :: T.u :: T.u :: T.u :: T.u :: T.u :: T.u :: T.u :: T.u :: T.u :: T.u :: T.u :: T.u :: T.u :: T.u :: T.u :: T.u :: T.u :: T.u :: T.u :: T.u :: T.u :: T.u :: T.u :: T.u :: T.u :: T.u :: T.u :: T.u :: T.u :: T.u :: T.u :: T.u :: T.u :: T.u :: T.u :: T.u :: T.u :: T.u :: T.u :: T.u :: T.u :: T.u :: T.u :: T.u :: T.u :: T.u :: T.u :: T.u :: T.u :: T.u :: T.u :: T.u :: T.u :: T.u :: T.u :: T.u :: T.u :: T.u :: [])
def P57 : List PT := [.us 1, pI, .us 5, (.own true 1), .us 2, pI, .us 31, (.own true 4), pI, pI, .us 21]
noncomputable def M86_16 {β : Type} (l86_16_0 : (Int → List R → Option β) → Int → List R → Int → List R → Int → Int → Option β) (s : List T) : Option ((Ex → List T → Option β) → Option β) :=
  match gTs P57 (clean ((Hn 86).lp 16).1 s) [] with
  | some [.i x0, .l x1, .i x2, .l x3, .i x4, .i x5] => some fun kk => l86_16_0 (fun x6 x7 => kk (Ex.ex 2) (S56 x6 x7)) x0 x1 x2 x3 x4 x5
  | _ => none
theorem e86_16_0 {β : Type} (A : Pr) (B : Pk) (l86_16_0 : (Int → List R → Option β) → Int → List R → Int → List R → Int → Int → Option β) (x0 : Int) (x1 : List R) (x2 : Int) (x3 : List R) (x4 x5 : Int) (kk : Ex → List T → Option β) :
    uTs P57 [.i x0, .l x1, .i x2, .l x3, .i x4, .i x5] (fun s _ => evK (mkK Try.prog A B [] [] (Hn 86).pt []) X86_16 s (fun e s' => match e with
      | .nm => (match M86_16 l86_16_0 s' with | some h => h kk | none => none)
      | .ex m => kk (.ex m) (clean ((Hn 86).lp (firstReg X86_16)).2 s')
      | .rt => kk .rt (clean ((Hn 86).lp (firstReg X86_16)).2 s'))) = GL86_16_0 A B l86_16_0 (fun x6 x7 => kk (Ex.ex 2) (S56 x6 x7)) x0 x1 x2 x3 x4 x5 := by kernel_rfl
theorem ol86_16 {β : Type} (N : Nat) : ∀ n, SndL (β := β) Try.prog Hn (Hn 86) X86_16 (M86_16 (L86_16_0 re rk N n))
  | 0 => by
    intro s h kk r ha hr
    unfold M86_16 at ha
    split at ha
    · cases ha; cases hr
    · cases ha
  | n + 1 => by
    have ih := ol86_16 (β := β) N n
    intro s h kk r ha hr
    unfold M86_16 at ha
    split at ha
    · rename_i hs
      cases ha
      have hk := via_pat hs ((e86_16_0 re rk (L86_16_0 re rk N n) _ _ _ _ _ _ kk).trans hr)
      exact round_ok (show SndAll Try.prog Hn [] from trivial) (spots := []) (by kernel_rfl) trivial ih (hd := clean ((Hn 86).lp 16).1 s) (by rw [i86_16]) hk
    · cases ha
def G86_0 {β : Type} (A : Pr) (B : Pk) (f55_0 : List R → (Int → Option β) → Option β) (f111_0 : List R → (List R → Option β) → Option β) (l86_9_0 : (List R → Option β) → List R → List R → Int → Int → Option β) (l86_16_0 : (Int → List R → Option β) → Int → List R → Int → List R → Int → Int → Option β) (x0 : List R) (x1 : Int) (k0 : List R → Int → Option β) : Option β :=
    f55_0 x0 (fun x2 =>
    match (A.cm .neq x2 0) with
      | true => (k0 [] x2)
      | false => (match (A.cm .lss x1 (-1)) with
        | true => (k0 [] 2)
        | false => (match (A.mkn (A.on (A.len x0)) 8) with
          | some x3 => (match (A.sx (A.on (A.len x0)) x3) with
            | some x4 => (match (A.cm .eql x1 (-1)) with
              | true => (l86_9_0 (fun x5 =>
                k0 x5 0) (A.rep x4 (R.i .i64 0)) x0 (A.on (A.len x0)) 0)
              | false => (f111_0 x0 (fun x6 =>
                l86_16_0 (fun x7 x8 =>
                  k0 x8 0) x1 (A.rep x4 (R.i .i64 0)) 0 x6 (A.on (A.len x6)) 0)))
            | none => none)
          | none => none)))
def F86_0 {β : Type} (A : Pr) (B : Pk) (N : Nat) (x0 : List R) (x1 : Int) (k0 : List R → Int → Option β) : Option β :=
  G86_0 A B (F55_0 A B N) (F111_0 A B N) (L86_9_0 A B N N) (L86_16_0 A B N N) x0 x1 k0
def P58 : List PT := [(.r (.ro 2)), pI]
def M86_0 {β : Type} (f86_0 : List R → Int → (List R → Int → Option β) → Option β) (a : List T) : Option ((T → List (List T) → Option β) → Option β) :=
  match gTs P58 a [] with
  | some [.l x0, .i x1] => some fun kk => f86_0 x0 x1 (fun x2 x3 => kk (T.tp true [(T.own true 1 x2), (tI x3)]) [])
  | _ => none
theorem e86_0 {β : Type} (A : Pr) (B : Pk) (f55_0 : List R → (Int → Option β) → Option β) (f111_0 : List R → (List R → Option β) → Option β) (l86_9_0 : (List R → Option β) → List R → List R → Int → Int → Option β) (l86_16_0 : (Int → List R → Option β) → Int → List R → Int → List R → Int → Int → Option β) (x0 : List R) (x1 : Int) (kk : T → List (List T) → Option β) :
    uTs P58 [.l x0, .i x1] (fun a _ => bodyK (mkK Try.prog A B [(55, M55_0 f55_0), (111, M111_0 f111_0)] [(9, M86_9 l86_9_0), (16, M86_16 l86_16_0)] (Hn 86).pt []) Try.f86 a kk) = G86_0 A B f55_0 f111_0 l86_9_0 l86_16_0 x0 x1 (fun x2 x3 => kk (T.tp true [(T.own true 1 x2), (tI x3)]) []) := by kernel_rfl
theorem o86_0 {β : Type} (N : Nat) : Snd (β := β) Try.prog Hn 86 (M86_0 (F86_0 re rk N)) := by
  intro a h kk r ha hr
  unfold M86_0 at ha
  split at ha
  · rename_i hs
    cases ha
    have hk := via_pat hs ((e86_0 re rk (F55_0 re rk N) (F111_0 re rk N) (L86_9_0 re rk N N) (L86_16_0 re rk N N) _ _ kk).trans hr)
    exact fn_ok (f := 86) (fn := Try.f86) (H := Hn) (by kernel_rfl) (show SndAll Try.prog Hn [(55, M55_0 (F55_0 re rk N)), (111, M111_0 (F111_0 re rk N))] from ⟨o55_0 N, o111_0 N, trivial⟩) (spots := [.lp X86_9, .lp X86_16]) (by kernel_rfl) ⟨cut_lp (id := 9) i86_9 (ol86_9 N N) (fun s kk => by kernel_rfl), cut_lp (id := 16) i86_16 (ol86_16 N N) (fun s kk => by kernel_rfl), trivial⟩ hk
  · cases ha
noncomputable def X54_14 : Code := atF Try.f54 [true, true, true, true, true, false, true, false, false]
theorem i54_14 : firstReg X54_14 = 14 := by kernel_rfl
def GL54_14_0 {β : Type} (A : Pr) (B : Pk) (f86_0 : List R → Int → (List R → Int → Option β) → Option β) (l54_14_0 : (List R → List R → Option β) → List R → List R → List R → Int → Int → Option β) (k0 : List R → List R → Option β) (x0 x1 x2 : List R) (x3 x4 : Int) : Option β :=
    match (A.cm .lss x4 x3) with
    | true => (match (A.ix x4 (A.len x2)) with
      | some x5 => (match (B.okE [(Sh.i .i64)] false x2 x5) with
        | true => (f86_0 x0 (B.ci x2 x5 0) (fun x6 x7 =>
          match (A.small (A.len (A.app x1 [(R.ro 1 x6)])) 24) with
            | true => (l54_14_0 k0 x0 (A.app x1 [(R.ro 1 x6)]) x2 x3 (A.ar .add .i64 x4 1))
            | false => none))
        | false => none)
      | none => none)
    | false => (k0 x0 x1)
def L54_14_0 {β : Type} (A : Pr) (B : Pk) (N : Nat) : Nat → (List R → List R → Option β) → List R → List R → List R → Int → Int → Option β
  | 0, _, _, _, _, _, _ => none
  | n + 1, k0, x0, x1, x2, x3, x4 =>
    GL54_14_0 A B (F86_0 A B N) (L54_14_0 A B N n) k0 x0 x1 x2 x3 x4
def P59 : List PT := [(.r (.ro 2)), .us 8, (.own false 1), .us 68]
def S59 (x0 x1 : List R) : List T := ((T.r (R.ro 2 x0)) :: T.u :: T.u :: T.u :: T.u :: T.u :: T.u :: T.u :: T.u :: (T.own false 1 x1) :: T.u :: T.u :: T.u :: T.u :: T.u :: T.u :: T.u :: T.u :: T.u :: T.u :: T.u :: T.u :: T.u :: T.u :: T.u :: T.u :: T.u :: T.u :: T.u :: T.u :: T.u :: T.u :: T.u :: T.u :: T.u :: T.u :: T.u :: T.u :: T.u :: T.u :: T.u :: T.u :: T.u :: T.u :: T.u :: T.u :: T.u :: T.u :: T.u :: T.u :: T.u :: T.u :: T.u :: T.u :: T.u :: T.u :: T.u :: T.u :: T.u :: T.u :: T.u :: T.u :: T.u :: T.u :: T.u :: T.u :: T.u :: T.u :: T.u :: T.u :: T.u :: T.u :: T.u :: T.u :: T.u :: T.u :: T.u :: T.u :: [])
def P60 : List PT := [(.r (.ro 2)), .us 8, (.own false 1), .us 50, (.r (.ro 1)), pI, pI, .us 15]
noncomputable def M54_14 {β : Type} (l54_14_0 : (List R → List R → Option β) → List R → List R → List R → Int → Int → Option β) (s : List T) : Option ((Ex → List T → Option β) → Option β) :=
  match gTs P60 (clean ((Hn 54).lp 14).1 s) [] with
  | some [.l x0, .l x1, .l x2, .i x3, .i x4] => some fun kk => l54_14_0 (fun x5 x6 => kk (Ex.ex 2) (S59 x5 x6)) x0 x1 x2 x3 x4
  | _ => none
theorem e54_14_0 {β : Type} (A : Pr) (B : Pk) (f86_0 : List R → Int → (List R → Int → Option β) → Option β) (l54_14_0 : (List R → List R → Option β) → List R → List R → List R → Int → Int → Option β) (x0 x1 x2 : List R) (x3 x4 : Int) (kk : Ex → List T → Option β) :
    uTs P60 [.l x0, .l x1, .l x2, .i x3, .i x4] (fun s _ => evK (mkK Try.prog A B [(86, M86_0 f86_0)] [] (Hn 54).pt []) X54_14 s (fun e s' => match e with
      | .nm => (match M54_14 l54_14_0 s' with | some h => h kk | none => none)
      | .ex m => kk (.ex m) (clean ((Hn 54).lp (firstReg X54_14)).2 s')
      | .rt => kk .rt (clean ((Hn 54).lp (firstReg X54_14)).2 s'))) = GL54_14_0 A B f86_0 l54_14_0 (fun x5 x6 => kk (Ex.ex 2) (S59 x5 x6)) x0 x1 x2 x3 x4 := by kernel_rfl
theorem ol54_14 {β : Type} (N : Nat) : ∀ n, SndL (β := β) Try.prog Hn (Hn 54) X54_14 (M54_14 (L54_14_0 re rk N n))
  | 0 => by
    intro s h kk r ha hr
    unfold M54_14 at ha
    split at ha
    · cases ha; cases hr
    · cases ha
  | n + 1 => by
    have ih := ol54_14 (β := β) N n
    intro s h kk r ha hr
    unfold M54_14 at ha
    split at ha
    · rename_i hs
      cases ha
      have hk := via_pat hs ((e54_14_0 re rk (F86_0 re rk N) (L54_14_0 re rk N n) _ _ _ _ _ kk).trans hr)
      exact round_ok (show SndAll Try.prog Hn [(86, M86_0 (F86_0 re rk N))] from ⟨o86_0 N, trivial⟩) (spots := []) (by kernel_rfl) trivial ih (hd := clean ((Hn 54).lp 14).1 s) (by rw [i54_14]) hk
    · cases ha
def G54_0 {β : Type} (A : Pr) (B : Pk) (f55_0 : List R → (Int → Option β) → Option β) (l54_7_0 : (List R → List R → List R → Int → Option β) → (List R → List R → Option β) → List R → List R → List R → Int → Int → Option β) (l54_14_0 : (List R → List R → Option β) → List R → List R → List R → Int → Int → Option β) (x0 x1 : List R) (k0 : List R → Int → Option β) : Option β :=
    match (A.cm .gtr (A.on (A.len x1)) 16) with
    | true => (k0 [] 5)
    | false => (f55_0 x0 (fun x2 =>
      match (A.cm .neq x2 0) with
        | true => (k0 [] x2)
        | false => (l54_7_0 (fun x3 x4 x5 x6 =>
          k0 x5 x6) (fun x7 x8 =>
          l54_14_0 (fun x9 xa =>
            k0 xa 0) x7 [] x8 (A.on (A.len x8)) 0) x0 x1 x1 (A.on (A.len x1)) 0)))
def F54_0 {β : Type} (A : Pr) (B : Pk) (N : Nat) (x0 x1 : List R) (k0 : List R → Int → Option β) : Option β :=
  G54_0 A B (F55_0 A B N) (L54_7_0 A B N N) (L54_14_0 A B N N) x0 x1 k0
def M54_0 {β : Type} (f54_0 : List R → List R → (List R → Int → Option β) → Option β) (a : List T) : Option ((T → List (List T) → Option β) → Option β) :=
  match gTs P3 a [] with
  | some [.l x0, .l x1] => some fun kk => f54_0 x0 x1 (fun x2 x3 => kk (T.tp true [(T.own false 1 x2), (tI x3)]) [])
  | _ => none
theorem e54_0 {β : Type} (A : Pr) (B : Pk) (f55_0 : List R → (Int → Option β) → Option β) (l54_7_0 : (List R → List R → List R → Int → Option β) → (List R → List R → Option β) → List R → List R → List R → Int → Int → Option β) (l54_14_0 : (List R → List R → Option β) → List R → List R → List R → Int → Int → Option β) (x0 x1 : List R) (kk : T → List (List T) → Option β) :
    uTs P3 [.l x0, .l x1] (fun a _ => bodyK (mkK Try.prog A B [(55, M55_0 f55_0)] [(7, M54_7 l54_7_0), (14, M54_14 l54_14_0)] (Hn 54).pt []) Try.f54 a kk) = G54_0 A B f55_0 l54_7_0 l54_14_0 x0 x1 (fun x2 x3 => kk (T.tp true [(T.own false 1 x2), (tI x3)]) []) := by kernel_rfl
theorem o54_0 {β : Type} (N : Nat) : Snd (β := β) Try.prog Hn 54 (M54_0 (F54_0 re rk N)) := by
  intro a h kk r ha hr
  unfold M54_0 at ha
  split at ha
  · rename_i hs
    cases ha
    have hk := via_pat hs ((e54_0 re rk (F55_0 re rk N) (L54_7_0 re rk N N) (L54_14_0 re rk N N) _ _ kk).trans hr)
    exact fn_ok (f := 54) (fn := Try.f54) (H := Hn) (by kernel_rfl) (show SndAll Try.prog Hn [(55, M55_0 (F55_0 re rk N))] from ⟨o55_0 N, trivial⟩) (spots := [.lp X54_7, .lp X54_14]) (by kernel_rfl) ⟨cut_lp (id := 7) i54_7 (ol54_7 N N) (fun s kk => by kernel_rfl), cut_lp (id := 14) i54_14 (ol54_14 N N) (fun s kk => by kernel_rfl), trivial⟩ hk
  · cases ha
def G28_0 {β : Type} (A : Pr) (B : Pk) (f54_0 : List R → List R → (List R → Int → Option β) → Option β) (x0 x1 : List R) (k0 : List R → Int → Option β) : Option β :=
    f54_0 x0 x1 (fun x2 x3 =>
    k0 x2 x3)
def F28_0 {β : Type} (A : Pr) (B : Pk) (N : Nat) (x0 x1 : List R) (k0 : List R → Int → Option β) : Option β :=
  G28_0 A B (F54_0 A B N) x0 x1 k0
def M28_0 {β : Type} (f28_0 : List R → List R → (List R → Int → Option β) → Option β) (a : List T) : Option ((T → List (List T) → Option β) → Option β) :=
  match gTs P3 a [] with
  | some [.l x0, .l x1] => some fun kk => f28_0 x0 x1 (fun x2 x3 => kk (T.tp true [(T.own false 1 x2), (tI x3)]) [])
  | _ => none
theorem e28_0 {β : Type} (A : Pr) (B : Pk) (f54_0 : List R → List R → (List R → Int → Option β) → Option β) (x0 x1 : List R) (kk : T → List (List T) → Option β) :
    uTs P3 [.l x0, .l x1] (fun a _ => bodyK (mkK Try.prog A B [(54, M54_0 f54_0)] [] (Hn 28).pt []) Try.f28 a kk) = G28_0 A B f54_0 x0 x1 (fun x2 x3 => kk (T.tp true [(T.own false 1 x2), (tI x3)]) []) := by kernel_rfl
theorem o28_0 {β : Type} (N : Nat) : Snd (β := β) Try.prog Hn 28 (M28_0 (F28_0 re rk N)) := by
  intro a h kk r ha hr
  unfold M28_0 at ha
  split at ha
  · rename_i hs
    cases ha
    have hk := via_pat hs ((e28_0 re rk (F54_0 re rk N) _ _ kk).trans hr)
    exact fn_ok (f := 28) (fn := Try.f28) (H := Hn) (by kernel_rfl) (show SndAll Try.prog Hn [(54, M54_0 (F54_0 re rk N))] from ⟨o54_0 N, trivial⟩) (spots := []) (by kernel_rfl) trivial hk
  · cases ha
noncomputable def X29_9 : Code := atF Try.f29 [true, true, false, true, false, false, true, true, false, false, true, true, true, false, false]
theorem i29_9 : firstReg X29_9 = 9 := by kernel_rfl
def GL29_9_0 {β : Type} (A : Pr) (B : Pk) (l29_9_0 : (List R → List R → Bool → Int → Int → Option β) → (List R → List R → Int → Int → Option β) → List R → List R → Int → Int → Int → Int → Int → Option β) (k0 : List R → List R → Bool → Int → Int → Option β) (k1 : List R → List R → Int → Int → Option β) (x0 x1 : List R) (x2 x3 x4 x5 x6 : Int) : Option β :=
    match (A.cm .lss x6 x5) with
    | true => (match (A.ix x2 (A.len x0)) with
      | some x7 => (match (B.okE [(Sh.sl 1 (Sh.i .i64))] false x0 x7) with
        | true => (match (A.ix x6 (A.len (B.cl x0 x7 0))) with
          | some x8 => (match (B.okE [(Sh.i .i64)] false (B.cl x0 x7 0) x8) with
            | true => (match (A.ix x2 (A.len x1)) with
              | some x9 => (match (B.okE [(Sh.sl 1 (Sh.i .i64))] false x1 x9) with
                | true => (match (A.ix x6 (A.len (B.cl x1 x9 0))) with
                  | some xa => (match (B.okE [(Sh.i .i64)] false (B.cl x1 x9 0) xa) with
                    | true => (match (A.cm .neq (B.ci (B.cl x0 x7 0) x8 0) (B.ci (B.cl x1 x9 0) xa 0)) with
                      | true => (k0 x0 x1 false x3 x4)
                      | false => (l29_9_0 k0 k1 x0 x1 x2 x3 x4 x5 (A.ar .add .i64 x6 1)))
                    | false => none)
                  | none => none)
                | false => none)
              | none => none)
            | false => none)
          | none => none)
        | false => none)
      | none => none)
    | false => (k1 x0 x1 x3 x4)
def L29_9_0 {β : Type} (A : Pr) (B : Pk) (N : Nat) : Nat → (List R → List R → Bool → Int → Int → Option β) → (List R → List R → Int → Int → Option β) → List R → List R → Int → Int → Int → Int → Int → Option β
  | 0, _, _, _, _, _, _, _, _, _ => none
  | n + 1, k0, k1, x0, x1, x2, x3, x4, x5, x6 =>
    GL29_9_0 A B (L29_9_0 A B N n) k0 k1 x0 x1 x2 x3 x4 x5 x6
def P61 : List PT := [(.r (.ro 1)), (.r (.ro 1)), .us 2, pB, .us 8, pI, pI, .us 38]
def S61 (x0 x1 : List R) (x2 : Bool) (x3 x4 : Int) : List T := ((T.r (R.ro 1 x0)) :: (T.r (R.ro 1 x1)) :: T.u :: T.u :: (tB x2) :: T.u :: T.u :: T.u :: T.u :: T.u :: T.u :: T.u :: T.u :: (tI x3) :: (tI x4) :: T.u :: T.u :: T.u :: T.u :: T.u :: T.u :: T.u :: T.u :: T.u :: T.u :: T.u :: T.u :: T.u :: T.u :: T.u :: T.u :: T.u :: T.u :: T.u :: T.u :: T.u :: T.u :: T.u :: T.u :: T.u :: T.u :: T.u :: T.u :: T.u :: T.u :: T.u :: T.u :: T.u :: T.u :: T.u :: T.u :: T.u :: T.u :: [])
def P62 : List PT := [(.r (.ro 1)), (.r (.ro 1)), .us 11, pI, pI, .us 38]
def S62 (x0 x1 : List R) (x2 x3 : Int) : List T := ((T.r (R.ro 1 x0)) :: (T.r (R.ro 1 x1)) :: T.u :: T.u :: T.u :: T.u :: T.u :: T.u :: T.u :: T.u :: T.u :: T.u :: T.u :: (tI x2) :: (tI x3) :: T.u :: T.u :: T.u :: T.u :: T.u :: T.u :: T.u :: T.u :: T.u :: T.u :: T.u :: T.u :: T.u :: T.u :: T.u :: T.u :: T.u :: T.u :: T.u :: T.u :: T.u :: T.u :: T.u :: T.u :: T.u :: T.u :: T.u :: T.u :: T.u :: T.u :: T.u :: T.u :: T.u :: T.u :: T.u :: T.u :: T.u :: T.u :: [])
def P63 : List PT := [(.r (.ro 1)), (.r (.ro 1)), .us 3, pI, .us 7, pI, pI, .us 17, pI, pI, .us 19]
noncomputable def M29_9 {β : Type} (l29_9_0 : (List R → List R → Bool → Int → Int → Option β) → (List R → List R → Int → Int → Option β) → List R → List R → Int → Int → Int → Int → Int → Option β) (s : List T) : Option ((Ex → List T → Option β) → Option β) :=
  match gTs P63 (clean ((Hn 29).lp 9).1 s) [] with
  | some [.l x0, .l x1, .i x2, .i x3, .i x4, .i x5, .i x6] => some fun kk => l29_9_0 (fun x7 x8 x9 xa xb => kk Ex.rt (S61 x7 x8 x9 xa xb)) (fun xc xd xe xf => kk (Ex.ex 2) (S62 xc xd xe xf)) x0 x1 x2 x3 x4 x5 x6
  | _ => none
theorem e29_9_0 {β : Type} (A : Pr) (B : Pk) (l29_9_0 : (List R → List R → Bool → Int → Int → Option β) → (List R → List R → Int → Int → Option β) → List R → List R → Int → Int → Int → Int → Int → Option β) (x0 x1 : List R) (x2 x3 x4 x5 x6 : Int) (kk : Ex → List T → Option β) :
    uTs P63 [.l x0, .l x1, .i x2, .i x3, .i x4, .i x5, .i x6] (fun s _ => evK (mkK Try.prog A B [] [] (Hn 29).pt []) X29_9 s (fun e s' => match e with
      | .nm => (match M29_9 l29_9_0 s' with | some h => h kk | none => none)
      | .ex m => kk (.ex m) (clean ((Hn 29).lp (firstReg X29_9)).2 s')
      | .rt => kk .rt (clean ((Hn 29).lp (firstReg X29_9)).2 s'))) = GL29_9_0 A B l29_9_0 (fun x7 x8 x9 xa xb => kk Ex.rt (S61 x7 x8 x9 xa xb)) (fun xc xd xe xf => kk (Ex.ex 2) (S62 xc xd xe xf)) x0 x1 x2 x3 x4 x5 x6 := by kernel_rfl
theorem ol29_9 {β : Type} (N : Nat) : ∀ n, SndL (β := β) Try.prog Hn (Hn 29) X29_9 (M29_9 (L29_9_0 re rk N n))
  | 0 => by
    intro s h kk r ha hr
    unfold M29_9 at ha
    split at ha
    · cases ha; cases hr
    · cases ha
  | n + 1 => by
    have ih := ol29_9 (β := β) N n
    intro s h kk r ha hr
    unfold M29_9 at ha
    split at ha
    · rename_i hs
      cases ha
      have hk := via_pat hs ((e29_9_0 re rk (L29_9_0 re rk N n) _ _ _ _ _ _ _ kk).trans hr)
      exact round_ok (show SndAll Try.prog Hn [] from trivial) (spots := []) (by kernel_rfl) trivial ih (hd := clean ((Hn 29).lp 9).1 s) (by rw [i29_9]) hk
    · cases ha
noncomputable def X29_4 : Code := atF Try.f29 [true, true, false, true, false, false]
theorem i29_4 : firstReg X29_4 = 4 := by kernel_rfl
def GL29_4_0 {β : Type} (A : Pr) (B : Pk) (l29_9_0 : (List R → List R → Bool → Int → Int → Option β) → (List R → List R → Int → Int → Option β) → List R → List R → Int → Int → Int → Int → Int → Option β) (l29_4_0 : (List R → List R → Bool → Option β) → (List R → List R → Option β) → List R → List R → Int → Int → Option β) (k0 : List R → List R → Bool → Option β) (k1 : List R → List R → Option β) (x0 x1 : List R) (x2 x3 : Int) : Option β :=
    match (A.cm .lss x3 x2) with
    | true => (match (A.ix x3 (A.len x0)) with
      | some x4 => (match (B.okE [(Sh.sl 1 (Sh.i .i64))] false x0 x4) with
        | true => (match (A.ix x3 (A.len x1)) with
          | some x5 => (match (B.okE [(Sh.sl 1 (Sh.i .i64))] false x1 x5) with
            | true => (match (A.cm .neq (A.on (A.len (B.cl x0 x4 0))) (A.on (A.len (B.cl x1 x5 0)))) with
              | true => (k0 x0 x1 false)
              | false => (match (A.ix x3 (A.len x0)) with
                | some x6 => (match (B.okE [(Sh.sl 1 (Sh.i .i64))] false x0 x6) with
                  | true => (l29_9_0 (fun x7 x8 x9 xa xb =>
                    k0 x7 x8 x9) (fun xc xd xe xf =>
                    l29_4_0 k0 k1 xc xd xe (A.ar .add .i64 xf 1)) x0 x1 x3 x2 x3 (A.on (A.len (B.cl x0 x6 0))) 0)
                  | false => none)
                | none => none))
            | false => none)
          | none => none)
        | false => none)
      | none => none)
    | false => (k1 x0 x1)
def L29_4_0 {β : Type} (A : Pr) (B : Pk) (N : Nat) : Nat → (List R → List R → Bool → Option β) → (List R → List R → Option β) → List R → List R → Int → Int → Option β
  | 0, _, _, _, _, _, _ => none
  | n + 1, k0, k1, x0, x1, x2, x3 =>
    GL29_4_0 A B (L29_9_0 A B N N) (L29_4_0 A B N n) k0 k1 x0 x1 x2 x3
def P64 : List PT := [(.r (.ro 1)), (.r (.ro 1)), .us 2, pB, .us 48]
def S64 (x0 x1 : List R) (x2 : Bool) : List T := ((T.r (R.ro 1 x0)) :: (T.r (R.ro 1 x1)) :: T.u :: T.u :: (tB x2) :: T.u :: T.u :: T.u :: T.u :: T.u :: T.u :: T.u :: T.u :: T.u :: T.u :: T.u :: T.u :: T.u :: T.u :: T.u :: T.u :: T.u :: T.u :: T.u :: T.u :: T.u :: T.u :: T.u :: T.u :: T.u :: T.u :: T.u :: T.u :: T.u :: T.u :: T.u :: T.u :: T.u :: T.u :: T.u :: T.u :: T.u :: T.u :: T.u :: T.u :: T.u :: T.u :: T.u :: T.u :: T.u :: T.u :: T.u :: T.u :: [])
def P65 : List PT := [(.r (.ro 1)), (.r (.ro 1)), .us 51]
def S65 (x0 x1 : List R) : List T := ((T.r (R.ro 1 x0)) :: (T.r (R.ro 1 x1)) :: T.u :: T.u :: T.u :: T.u :: T.u :: T.u :: T.u :: T.u :: T.u :: T.u :: T.u :: T.u :: T.u :: T.u :: T.u :: T.u :: T.u :: T.u :: T.u :: T.u :: T.u :: T.u :: T.u :: T.u :: T.u :: T.u :: T.u :: T.u :: T.u :: T.u :: T.u :: T.u :: T.u :: T.u :: T.u :: T.u :: T.u :: T.u :: T.u :: T.u :: T.u :: T.u :: T.u :: T.u :: T.u :: T.u :: T.u :: T.u :: T.u :: T.u :: T.u :: [])
noncomputable def M29_4 {β : Type} (l29_4_0 : (List R → List R → Bool → Option β) → (List R → List R → Option β) → List R → List R → Int → Int → Option β) (s : List T) : Option ((Ex → List T → Option β) → Option β) :=
  match gTs P62 (clean ((Hn 29).lp 4).1 s) [] with
  | some [.l x0, .l x1, .i x2, .i x3] => some fun kk => l29_4_0 (fun x4 x5 x6 => kk Ex.rt (S64 x4 x5 x6)) (fun x7 x8 => kk (Ex.ex 0) (S65 x7 x8)) x0 x1 x2 x3
  | _ => none
theorem e29_4_0 {β : Type} (A : Pr) (B : Pk) (l29_9_0 : (List R → List R → Bool → Int → Int → Option β) → (List R → List R → Int → Int → Option β) → List R → List R → Int → Int → Int → Int → Int → Option β) (l29_4_0 : (List R → List R → Bool → Option β) → (List R → List R → Option β) → List R → List R → Int → Int → Option β) (x0 x1 : List R) (x2 x3 : Int) (kk : Ex → List T → Option β) :
    uTs P62 [.l x0, .l x1, .i x2, .i x3] (fun s _ => evK (mkK Try.prog A B [] [(9, M29_9 l29_9_0)] (Hn 29).pt []) X29_4 s (fun e s' => match e with
      | .nm => (match M29_4 l29_4_0 s' with | some h => h kk | none => none)
      | .ex m => kk (.ex m) (clean ((Hn 29).lp (firstReg X29_4)).2 s')
      | .rt => kk .rt (clean ((Hn 29).lp (firstReg X29_4)).2 s'))) = GL29_4_0 A B l29_9_0 l29_4_0 (fun x4 x5 x6 => kk Ex.rt (S64 x4 x5 x6)) (fun x7 x8 => kk (Ex.ex 0) (S65 x7 x8)) x0 x1 x2 x3 := by kernel_rfl
theorem ol29_4 {β : Type} (N : Nat) : ∀ n, SndL (β := β) Try.prog Hn (Hn 29) X29_4 (M29_4 (L29_4_0 re rk N n))
  | 0 => by
    intro s h kk r ha hr
    unfold M29_4 at ha
    split at ha
    · cases ha; cases hr
    · cases ha
  | n + 1 => by
    have ih := ol29_4 (β := β) N n
    intro s h kk r ha hr
    unfold M29_4 at ha
    split at ha
    · rename_i hs
      cases ha
      have hk := via_pat hs ((e29_4_0 re rk (L29_9_0 re rk N N) (L29_4_0 re rk N n) _ _ _ _ kk).trans hr)
      exact round_ok (show SndAll Try.prog Hn [] from trivial) (spots := [.lp X29_9]) (by kernel_rfl) ⟨cut_lp (id := 9) i29_9 (ol29_9 N N) (fun s kk => by kernel_rfl), trivial⟩ ih (hd := clean ((Hn 29).lp 4).1 s) (by rw [i29_4]) hk
    · cases ha
def G29_0 {β : Type} (A : Pr) (B : Pk) (l29_4_0 : (List R → List R → Bool → Option β) → (List R → List R → Option β) → List R → List R → Int → Int → Option β) (x0 x1 : List R) (k0 : Bool → Option β) : Option β :=
    match (A.cm .neq (A.on (A.len x0)) (A.on (A.len x1))) with
    | true => (k0 false)
    | false => (l29_4_0 (fun x2 x3 x4 =>
      k0 x4) (fun x5 x6 =>
      k0 true) x0 x1 (A.on (A.len x0)) 0)
def F29_0 {β : Type} (A : Pr) (B : Pk) (N : Nat) (x0 x1 : List R) (k0 : Bool → Option β) : Option β :=
  G29_0 A B (L29_4_0 A B N N) x0 x1 k0
def P66 : List PT := [(.r (.ro 1)), (.r (.ro 1))]
def M29_0 {β : Type} (f29_0 : List R → List R → (Bool → Option β) → Option β) (a : List T) : Option ((T → List (List T) → Option β) → Option β) :=
  match gTs P66 a [] with
  | some [.l x0, .l x1] => some fun kk => f29_0 x0 x1 (fun x2 => kk (tB x2) [])
  | _ => none
theorem e29_0 {β : Type} (A : Pr) (B : Pk) (l29_4_0 : (List R → List R → Bool → Option β) → (List R → List R → Option β) → List R → List R → Int → Int → Option β) (x0 x1 : List R) (kk : T → List (List T) → Option β) :
    uTs P66 [.l x0, .l x1] (fun a _ => bodyK (mkK Try.prog A B [] [(4, M29_4 l29_4_0)] (Hn 29).pt []) Try.f29 a kk) = G29_0 A B l29_4_0 x0 x1 (fun x2 => kk (tB x2) []) := by kernel_rfl
theorem o29_0 {β : Type} (N : Nat) : Snd (β := β) Try.prog Hn 29 (M29_0 (F29_0 re rk N)) := by
  intro a h kk r ha hr
  unfold M29_0 at ha
  split at ha
  · rename_i hs
    cases ha
    have hk := via_pat hs ((e29_0 re rk (L29_4_0 re rk N N) _ _ kk).trans hr)
    exact fn_ok (f := 29) (fn := Try.f29) (H := Hn) (by kernel_rfl) (show SndAll Try.prog Hn [] from trivial) (spots := [.lp X29_4]) (by kernel_rfl) ⟨cut_lp (id := 4) i29_4 (ol29_4 N N) (fun s kk => by kernel_rfl), trivial⟩ hk
  · cases ha
def G9_0 {β : Type} (A : Pr) (B : Pk) (f26_0 : List R → List R → (Bool → Option β) → Option β) (f27_0 : List R → List R → (List R → Int → Option β) → Option β) (f28_0 : List R → List R → (List R → Int → Option β) → Option β) (f29_0 : List R → List R → (Bool → Option β) → Option β) (x0 x1 : List R) (k0 : Bool → Option β) : Option β :=
    f26_0 x0 x1 (fun x2 =>
    match (A.bn x2) with
      | true => (k0 true)
      | false => (f27_0 x0 x1 (fun x3 x4 =>
        f28_0 x0 x1 (fun x5 x6 =>
          match (A.cm .eql x4 x6) with
            | true => (f29_0 x3 x5 (fun x7 =>
              match x7 with
                | true => (k0 true)
                | false => (k0 false)))
            | false => (k0 false)))))
def F9_0 {β : Type} (A : Pr) (B : Pk) (N : Nat) (x0 x1 : List R) (k0 : Bool → Option β) : Option β :=
  G9_0 A B (F26_0 A B N) (F27_0 A B N) (F28_0 A B N) (F29_0 A B N) x0 x1 k0
def M9_0 {β : Type} (f9_0 : List R → List R → (Bool → Option β) → Option β) (a : List T) : Option ((T → List (List T) → Option β) → Option β) :=
  match gTs P3 a [] with
  | some [.l x0, .l x1] => some fun kk => f9_0 x0 x1 (fun x2 => kk (tB x2) [])
  | _ => none
theorem e9_0 {β : Type} (A : Pr) (B : Pk) (f26_0 : List R → List R → (Bool → Option β) → Option β) (f27_0 : List R → List R → (List R → Int → Option β) → Option β) (f28_0 : List R → List R → (List R → Int → Option β) → Option β) (f29_0 : List R → List R → (Bool → Option β) → Option β) (x0 x1 : List R) (kk : T → List (List T) → Option β) :
    uTs P3 [.l x0, .l x1] (fun a _ => bodyK (mkK Try.prog A B [(26, M26_0 f26_0), (23, M23_0), (27, M27_0 f27_0), (28, M28_0 f28_0), (29, M29_0 f29_0)] [] (Hn 9).pt []) Try.f9 a kk) = G9_0 A B f26_0 f27_0 f28_0 f29_0 x0 x1 (fun x2 => kk (tB x2) []) := by kernel_rfl
theorem o9_0 {β : Type} (N : Nat) : Snd (β := β) Try.prog Hn 9 (M9_0 (F9_0 re rk N)) := by
  intro a h kk r ha hr
  unfold M9_0 at ha
  split at ha
  · rename_i hs
    cases ha
    have hk := via_pat hs ((e9_0 re rk (F26_0 re rk N) (F27_0 re rk N) (F28_0 re rk N) (F29_0 re rk N) _ _ kk).trans hr)
    exact fn_ok (f := 9) (fn := Try.f9) (H := Hn) (by kernel_rfl) (show SndAll Try.prog Hn [(26, M26_0 (F26_0 re rk N)), (23, M23_0), (27, M27_0 (F27_0 re rk N)), (28, M28_0 (F28_0 re rk N)), (29, M29_0 (F29_0 re rk N))] from ⟨o26_0 N, o23_0 N, o27_0 N, o28_0 N, o29_0 N, trivial⟩) (spots := []) (by kernel_rfl) trivial hk
  · cases ha
end
